/- The walk of SpareTorn. -/
import Derived.Test.YteicmbapipnbjaaLaw05D
import Derived.Test.YteicmbapipnbjaaSpareMath2
namespace Go.Proofs.Yteicmbapipnbjaa
open Go.RowKit
set_option linter.unusedVariables false
set_option linter.unusedSimpArgs false
namespace Sp
theorem torn_step (A : List (BitVec 8)) (K m : Nat) (h : K ≤ m) (hm : m < A.length) : (lay A K (List.replicate (m - K) 255#8)).set m 255#8 = lay A K (List.replicate (m + 1 - K) 255#8) := by
  have e := lay_push A K (List.replicate (m - K) 255#8) 255#8 (by simp; omega)
  rw [List.length_replicate, show K + (m - K) = m by omega, ← List.replicate_succ'] at e
  rw [e, show m - K + 1 = m + 1 - K by omega]
end Sp
theorem own_pos {w : World} {base n : Nat} {e : TypeId} {v : Value} {xs : List Value} (h : w.ownsRow base e 1 v n xs) (hn : 0 < n) : ∃ g c, v = .slice (some ⟨g, 0, none⟩) n c := by
  obtain ⟨h1, h2⟩ := h
  rcases h2 with ⟨e1, e2⟩ | ⟨g, cap, cur, hv, _⟩
  · omega
  · exact ⟨_, _, hv⟩
theorem own_store {w : World} {base g : Nat} {L c : Nat} {A : List (BitVec 8)} (h : w.ownsRow base 5 1 (.slice (some ⟨g, 0, none⟩) L c) L (by8 A)) (hA : A.length = L) (j : Nat) (hj : j < L) : (∃ v, w.cell? ⟨g, j, none⟩ = some v) ∧ w.frozen? ⟨g, j, none⟩ = false := by
  refine ⟨?_, h.frozenAt j⟩
  rw [h.cellAt j (by omega)]
  exact ⟨_, List.getElem?_eq_getElem (by rw [by8_length, hA]; omega)⟩
set_option maxRecDepth 8000 in
set_option maxHeartbeats 3200000 in
theorem lawTorn (k : BitVec 8) (s : Int) (q p : BitVec 64) (i n : Int) (v : Value) (l : List (BitVec 8)) (K : Int) (w : World) (hv : BytesV w v l) (hK : -9223372036854775808 ≤ K ∧ K ≤ 9223372036854775807) :
    Calls Try.prog 4 #[.agg #[.int .u8 (uv k), .int .i64 s, .int .u64 (uv q), .int .u64 (uv p), .int .i64 i, .int .i64 n], v, .int .i64 K] w fun e w' => e = .returned (.bool true) ∧ Below w.heap.size w w' := by
  have hb0 := gr_alloc w (.cells #[.int .u8 (uv k), .int .i64 s, .int .u64 (uv q), .int .u64 (uv p), .int .i64 i, .int .i64 n] 25)
  have hs0 := heap_alloc_new w (.cells #[.int .u8 (uv k), .int .i64 s, .int .u64 (uv q), .int .u64 (uv p), .int .i64 i, .int .i64 n] 25)
  obtain ⟨W, hW⟩ : ∃ W, W = w.alloc (.cells #[.int .u8 (uv k), .int .i64 s, .int .u64 (uv q), .int .u64 (uv p), .int .i64 i, .int .i64 n] 25) := ⟨_, rfl⟩
  rw [← hW] at hb0 hs0
  have hV := hv.below hb0
  obtain ⟨av, cv, rfl, -⟩ := id hv
  have HW := Lib.hid hW; have B := Lib.hid hb0; have S0 := Lib.hid hs0; have V := Lib.hid hV; clear hW hb0 hs0 hV hv
  by_cases h300 : l.length ≤ 300
  · have HL := Lib.hid (show l.length ≤ 1000000 by omega); have HL2 := Lib.hid (show l.length ≤ 140737488355328 by omega)
    have hd : decide ((l.length : Int) > 300) = false := by simp; omega
    by_cases hneg : K < 0
    · clear hK
      have hx := hneg
      go_enter Try.func4, Try.ntmps4
      go_upto_region 1 with fail
      rw [← HW.out]
      go_wp2_with (go_at_call 8; go_loud ((with_reducible refine (works5_any _).mono ?_); rintro r w9 ⟨rfl, hw⟩; replace B := Lib.hid (gr_tr B.out hw); clear hw))
      go_ret
      exact ⟨rfl, B.out⟩
    · by_cases hbig : (l.length : Int) + 64 < K
      · clear hK
        have hx : ¬ K < 0 := hneg
        go_enter Try.func4, Try.ntmps4
        go_upto_region 1 with fail
        rw [← HW.out]
        go_wp2_with (go_at_call 8; go_loud ((with_reducible refine (works5_any _).mono ?_); rintro r w9 ⟨rfl, hw⟩; replace B := Lib.hid (gr_tr B.out hw); clear hw))
        go_ret
        exact ⟨rfl, B.out⟩
      · obtain ⟨kn, rfl⟩ : ∃ kn : Nat, K = kn := ⟨K.toNat, by omega⟩
        have hkn : kn ≤ l.length + 64 := by omega
        clear hneg hbig hK
        have hk2 : ¬ ((l.length : Int) + 64 < (kn : Int)) := by omega
        have hk3 : decide ((kn : Int) < 0) = false := by simp
        obtain ⟨vb, hvb⟩ : ∃ b, Sp.valid k s q p i n = b := ⟨_, rfl⟩
        have HVB := Lib.hid hvb; clear hvb
        cases vb
        · go_enter Try.func4, Try.ntmps4
          go_upto_region 1 with fail
          rw [← HW.out]
          go_wp2_with (first
            | (refine wpList_load_row rfl 25 (.tmp 3) rfl w.heap.size rfl 25 _ (0, 0) _ S0.out Try.underlying25 rfl (by kernel_rfl) ?_)
            | (go_at_call 9; go_loud ((with_reducible refine (Encode5_no k s q p i n _ _ HVB.out).mono ?_); rintro r w2 ⟨rfl, hw⟩; replace B := Lib.hid (gr_tr B.out hw); clear hw))
            | (go_at_call 12; go_loud (refine (num5_any _ _).mono ?_; rintro r w' ⟨rfl, rfl⟩))
            | (go_at_call 8; go_loud ((with_reducible refine (works5_any _).mono ?_); rintro r w9 ⟨rfl, hw⟩; replace B := Lib.hid (gr_tr B.out hw); clear hw)))
          go_ret
          exact ⟨rfl, B.out⟩
        · obtain ⟨E, hE⟩ : ∃ E, Sp.enc k s q p i n l = E := ⟨_, rfl⟩
          have hE64 : E.length = 64 := by rw [← hE]; exact Sp.enc_len ..
          obtain ⟨A, hA⟩ : ∃ A, l ++ E = A := ⟨_, rfl⟩
          have hAl : A.length = l.length + 64 := by rw [← hA]; simp [hE64]
          obtain ⟨N, hN⟩ : ∃ N, l.length + 64 = N := ⟨_, rfl⟩
          obtain ⟨T, hT⟩ : ∃ T, Sp.torn A kn = T := ⟨_, rfl⟩
          have hTl : T.length = l.length + 64 := by rw [← hT, Sp.torn_len _ _ (by omega), hAl]
          obtain ⟨lo, hlo⟩ : ∃ x, T.take l.length = x := ⟨_, rfl⟩
          obtain ⟨hi, hhi⟩ : ∃ x, T.drop l.length = x := ⟨_, rfl⟩
          obtain ⟨s1, hs1⟩ : ∃ b, (lo == l) = b := ⟨_, rfl⟩
          obtain ⟨s2, hs2⟩ : ∃ b, (hi == E) = b := ⟨_, rfl⟩
          obtain ⟨er, her⟩ : ∃ e, Sp.err lo hi = e := ⟨_, rfl⟩
          obtain ⟨cc, hcc⟩ : ∃ c, Sp.valC lo hi = c := ⟨_, rfl⟩
          obtain ⟨hsz, hall, heq⟩ := Sp.valC_facts lo hi
          rw [hcc] at hsz hall
          have hlaw : (er == 0) = (s1 && s2) := by
            have := Sp.torn_law l HVB.out kn hkn T (by rw [hE, hA]; exact hT)
            rw [hlo, hhi, hE, her, hs1, hs2] at this
            exact this
          have hlol : lo.length ≤ 1000000 := by rw [← hlo]; have := HL.out; simp; omega
          have HN := Lib.hid hN; have HE := Lib.hid hE; have HE64 := Lib.hid hE64; have HA := Lib.hid hA; have HAL := Lib.hid hAl; have HT := Lib.hid hT; have HTL := Lib.hid hTl; have HLOE := Lib.hid hlo; have HHIE := Lib.hid hhi; have HS1 := Lib.hid hs1; have HS2 := Lib.hid hs2; have HER := Lib.hid her; have HCC := Lib.hid hcc; have HSZ := Lib.hid hsz; have HALL := Lib.hid hall; have HLAW := Lib.hid hlaw; have HLO := Lib.hid hlol; have HKN := Lib.hid hkn
          clear hN hE hE64 hA hAl hT hTl hlo hhi hs1 hs2 her hcc hsz hall heq hlaw hlol hkn
          go_enter Try.func4, Try.ntmps4
          go_upto_region 1 with fail
          rw [← HW.out]
          go_upto_region 8 with (first
            | (refine wpList_load_row rfl 25 (.tmp 3) rfl w.heap.size rfl 25 _ (0, 0) _ S0.out Try.underlying25 rfl (by kernel_rfl) ?_)
            | (go_at_call 9; go_loud ((with_reducible refine (Encode5_ok k s q p i n _ l _ HVB.out V.out HL.out).mono ?_); rintro r w2 ⟨y, rfl, hy, hw⟩; rw [HE.out] at hy; obtain ⟨ay, cy, rfl⟩ := own_shape hy; have Y := Lib.hid (BytesV.of_own hy); have h64 : ((E.length : Int) != 64) = false := (by have := HE64.out; simp; omega); replace V := Lib.hid (V.out.below hw); replace S0 := Lib.hid (blk_below S0.out hw); replace B := Lib.hid (gr_tr B.out hw); clear hy hw))
            | (go_at_call 12; go_loud (refine (num5_any _ _).mono ?_; rintro r w' ⟨rfl, rfl⟩)))
          have V2 := Lib.hid V.out; have Y2 := Lib.hid Y.out; have B2 := Lib.hid B.out
          go_upto_region 10 with (first
            | (at_builtin; go_loud (refine app_fresh rfl (.tmp 41) (.tmp 42) rfl _ rfl rfl _ l rfl V.out HL2.out ?_; intro x w3 hx hw; have X := Lib.hid hx; have D := Lib.hid hw; replace V := Lib.hid (V.out.below hw); replace Y := Lib.hid (Y.out.below hw); replace S0 := Lib.hid (blk_below S0.out hw); replace B := Lib.hid (gr_tr B.out hw); clear hw hx))
            | (at_builtin; go_loud (refine app_more rfl (.tmp 43) (.tmp 44) rfl x w2.heap.size l.length l rfl X.out D.out.size _ E rfl Y.out (by have := HL2.out; have := HE64.out; have := HL.out; omega) ?_; intro x2 w4 hx hg hw2; rw [HA.out, HE64.out, HN.out] at hx; obtain ⟨gx, cx, rfl⟩ := own_pos hx (by have := HN.out; omega); have O := Lib.hid hx; have BX := Lib.hid (D.out.trans hw2); clear hx hg hw2)))
          go_loopw [10] (fun i wr => ∃ m : Nat, kn ≤ m ∧ m ≤ N ∧ i = .int .i64 m ∧ wr.ownsRow w2.heap.size 5 1 (.slice (some ⟨gx, 0, none⟩) N cx) N (by8 (Sp.lay A kn (List.replicate (m - kn) 255#8))) ∧ Below w2.heap.size w2 wr) (fun i _ => N - (intOf i).toNat)
          case atStart => exact ⟨kn, Nat.le_refl _, by have := HKN.out; have := HN.out; omega, rfl, by rw [Nat.sub_self, List.replicate_zero, Sp.lay_nil]; exact O.out, BX.out⟩
          case round =>
            obtain ⟨m, hkm, hm, rfl, hown, hbw⟩ := hrel
            have HO := Lib.hid hown; clear hown
            have HB := Lib.hid hbw; clear hbw
            have hNb : N ≤ 1000000 := by have := HN.out; omega
            by_cases hlt : m < N
            · have HX := Lib.hid (Sp.torn_step A kn m hkm (by have := HAL.out; have := HN.out; omega))
              obtain ⟨⟨vx, gx1⟩, fx⟩ := own_store HO.out (by rw [Sp.lay_len _ _ _ (by simp; have := HAL.out; have := HN.out; omega)]; have := HAL.out; have := HN.out; omega) m hlt
              go_wp2
              go_roundw
              case rel => exact ⟨m + 1, by omega, by omega, by go_num, by rw [← HX.out, by8_set]; exact (HO.out.stored m (.int .u8 255)).1, HB.out.grown (HO.out.stored m (.int .u8 255)).2 HB.out.size (fun k hk => (HO.out.lt k hk).1)⟩
              case measure => simp [intOf]; omega
            · obtain rfl : m = N := by omega
              have hown : wr.ownsRow w2.heap.size 5 1 (.slice (some ⟨gx, 0, none⟩) m cx) m (by8 T) := by
                have h1 := HO.out
                rw [show Sp.lay A kn (List.replicate (m - kn) 255#8) = T by rw [← HT.out]; unfold Sp.torn; rw [HAL.out, HN.out]] at h1
                exact h1
              have hb := BytesV.of_own (l := T) (by rw [HTL.out, HN.out]; exact hown)
              obtain ⟨uhi, hhi, hrh⟩ := hb.cutl (P := Try.prog) (T := 26) Try.underlying26 bsz l.length (by rw [HTL.out]; omega)
              obtain ⟨ulo, hlo, -, hrl⟩ := hb.cut (P := Try.prog) (T := 26) Try.underlying26 bsz 0 l.length (by omega) (by rw [HTL.out]; omega)
              have hrl := hrl rfl
              rw [HHIE.out] at hhi
              rw [List.drop_zero, HLOE.out] at hlo
              obtain ⟨ah, nh, ch, rfl⟩ := bytes_shape hhi
              obtain ⟨al, nl, cl, rfl⟩ := bytes_shape hlo
              have HI := Lib.hid hhi; have LO := Lib.hid hlo
              have V := Lib.hid (V2.out.below HB.out); have Y := Lib.hid (Y2.out.below HB.out); have B := Lib.hid (gr_tr B2.out HB.out)
              clear hb hhi hlo hown
              go_upto_region 13 with fail
              go_cut [12] (fun e wx => e = .int .i64 er ∧ Below wr.heap.size wr wx)
              case first =>
                refine wp_region_planT nowhere (.firm 0 (.firm 1 (.firm 2 (.firm 3 (.firm 4 (.firm 5 (.firm 6 (.firm 7 (.two 8 (.firm 9 (.firm 10 (.firm 11 (.one 12 (.one 13 (.firm 14 .done)))))) 12 (.one 8 (.firm 9 (.firm 10 (.firm 11 (.one 13 (.firm 14 .done)))))))))))))))
                  (by kernel_rfl) (by kernel_rfl) (by intro c a d v w h; cases d <;> exact h) ?_
                intro W1 K1 C1
                have HI1 := Lib.hid (HI.out.below C1.out); have LO1 := Lib.hid (LO.out.below C1.out)
                repeat (refine wpT_firm rfl (fun K hK => ?_); simp only [Keep]; go_simp; refine hK _ ?_; clear hK K)
                refine wpT_two rfl rfl ?_ ?_
                · go_wp2_with (go_at_call 15; go_loud (refine (Decode5_any _ _ hi lo cc er _ HI1.out LO1.out HLO.out HCC.out HER.out).mono ?_; rintro r w6 ⟨rfl, hw⟩; have K2 := Lib.hid (K1.out.below hw); have C2 := Lib.hid (gr_tr C1.out hw); clear hw))
                  refine ⟨K2.out, ?_⟩
                  repeat (refine wpT_firm rfl (fun K hK => ?_); simp only [Keep]; go_simp; refine hK _ ?_; clear hK K)
                  refine wpT_chain rfl ?_
                  go_wp2_with fail
                  refine ⟨K2.out.alloc _, ?_⟩
                  refine wpT_chain rfl ?_
                  refine wpList_store_new rfl 25 (.tmp 11) (.tmp 66) rfl cc 25 #[.int .u8 0, .int .i64 0, .int .u64 0, .int .u64 0, .int .i64 0, .int .i64 0] rfl rfl (by rw [HSZ.out]; kernel_rfl) HSZ.out.symm HALL.out ?_
                  intro w7 hr hw
                  have K3 := Lib.hid (K2.out.below hw); have C3 := Lib.hid (gr_tr C2.out hw); have R3 := Lib.hid hr; clear hr hw
                  go_wp2_with fail
                  refine ⟨K3.out, ?_⟩
                  repeat (refine wpT_firm rfl (fun K hK => ?_); simp only [Keep]; go_simp; refine hK _ ?_; clear hK K)
                  unfold wpT
                  go_wp2_with fail
                  go_meet
                  exact ⟨rfl, C3.out⟩
                · go_wp2_with fail
                  refine ⟨K1.out.alloc _, ?_⟩
                  refine wpT_chain rfl ?_
                  have hz := heap_alloc_new W1 (.cells #[.int .u8 0, .int .i64 0, .int .u64 0, .int .u64 0, .int .i64 0, .int .i64 0] 25)
                  go_wp2_with (go_at_call 15; go_loud (refine (Decode5_any _ _ hi lo cc er _ (HI1.out.below (gr_alloc _ _)) (LO1.out.below (gr_alloc _ _)) HLO.out HCC.out HER.out).mono ?_; rintro r w6 ⟨rfl, hw⟩; have HZ := Lib.hid (blk_below hz hw); have K2 := Lib.hid ((K1.out.alloc _).below hw); have C2 := Lib.hid (gr_tr C1.out (gr_tr (gr_alloc _ _) hw)); clear hw hz))
                  refine ⟨K2.out, ?_⟩
                  repeat (refine wpT_firm rfl (fun K hK => ?_); simp only [Keep]; go_simp; refine hK _ ?_; clear hK K)
                  refine wpT_chain rfl ?_
                  refine wpList_store_row rfl 25 (.tmp 11) (.tmp 66) rfl W1.heap.size cc rfl rfl 25 #[.int .u8 0, .int .i64 0, .int .u64 0, .int .u64 0, .int .i64 0, .int .i64 0] HZ.out (by rw [HSZ.out]; kernel_rfl) HSZ.out.symm HALL.out ?_
                  have R3 := Lib.hid (setRow_heap _ _ _ cc _ _ HZ.out)
                  have hb := below_setRow C2.out C1.out.size cc
                  have K3 := Lib.hid (K2.out.base (below_setRow (Below.refl _ _) C1.out.size cc))
                  generalize w6.setRow W1.heap.size cc = w7 at hb K3 R3 ⊢
                  have C3 := Lib.hid hb; clear hb
                  go_wp2_with fail
                  refine ⟨K3.out, ?_⟩
                  repeat (refine wpT_firm rfl (fun K hK => ?_); simp only [Keep]; go_simp; refine hK _ ?_; clear hK K)
                  unfold wpT
                  go_wp2_with fail
                  go_meet
                  exact ⟨rfl, C3.out⟩
              case rest =>
                obtain ⟨rfl, hw⟩ := hcut
                obtain ⟨w8, hw8⟩ : ∃ x, x = wc := ⟨_, rfl⟩
                subst hw8
                replace HI := Lib.hid (HI.out.below hw); replace LO := Lib.hid (LO.out.below hw); replace V := Lib.hid (V.out.below hw); replace Y := Lib.hid (Y.out.below hw); replace B := Lib.hid (gr_tr B.out hw)
                clear hw
                go_upto_region 14 with fail
                cases s1
                · have hz : (er == 0) = false := HLAW.out
                  refine wp_region_planW nowhere [(true, 0), (true, 3), (true, 4), (true, 5), (true, 6), (true, 7), (false, 1), (true, 2), (false, 8), (true, 9), (true, 10), (true, 11), (true, 12), (true, 13), (true, 14), (false, 15), (true, 16), (true, 17), (true, 18), (false, 19), (true, 20), (true, 21)]
                    (by kernel_rfl) (by kernel_rfl) (by intro c a d v w h; cases d <;> exact h) ?_
                  intro W1 K1 C1
                  replace HI := Lib.hid (HI.out.below C1.out); replace LO := Lib.hid (LO.out.below C1.out); replace V := Lib.hid (V.out.below C1.out); replace Y := Lib.hid (Y.out.below C1.out); replace B := Lib.hid (gr_tr B.out C1.out)
                  repeat (refine wpS_firm rfl (fun K hK => ?_); simp only [Keep]; go_simp; refine hK _ ?_; clear hK K)
                  refine wpS_chain rfl ?_
                  go_wp2_with (go_at_call 12; go_loud (refine (num5_any _ _).mono ?_; rintro r w' ⟨rfl, rfl⟩))
                  refine ⟨K1.out, ?_⟩
                  repeat (refine wpS_firm rfl (fun K hK => ?_); simp only [Keep]; go_simp; refine hK _ ?_; clear hK K)
                  refine wpS_chain rfl ?_
                  go_wp2_with (go_at_call 11; go_loud (refine (same5_at _ _ lo l false W1 LO.out V.out HS1.out).mono ?_; rintro r w' ⟨rfl, rfl⟩))
                  refine ⟨K1.out, ?_⟩
                  repeat (refine wpS_firm rfl (fun K hK => ?_); simp only [Keep]; go_simp; refine hK _ ?_; clear hK K)
                  refine wpS_chain rfl ?_
                  go_wp2_with fail
                  refine ⟨K1.out, ?_⟩
                  repeat (refine wpS_firm rfl (fun K hK => ?_); simp only [Keep]; go_simp; refine hK _ ?_; clear hK K)
                  refine wpS_chain rfl ?_
                  go_wp2_with (go_at_call 8; go_loud ((with_reducible refine (works5_any _).mono ?_); rintro r w9 ⟨rfl, hw⟩; replace B := Lib.hid (gr_tr B.out hw); have K2 := Lib.hid (K1.out.below hw); clear hw))
                  refine ⟨K2.out, ?_⟩
                  repeat (refine wpS_firm rfl (fun K hK => ?_); simp only [Keep]; go_simp; refine hK _ ?_; clear hK K)
                  unfold wpS
                  go_wp2_with fail
                  go_ret
                  exact ⟨rfl, B.out⟩
                · cases s2
                  · have hz : (er == 0) = false := HLAW.out
                    refine wp_region_planW nowhere [(true, 0), (true, 3), (true, 4), (true, 5), (true, 6), (true, 7), (false, 1), (true, 2), (false, 8), (true, 9), (true, 10), (true, 11), (true, 12), (true, 13), (true, 14), (false, 15), (true, 16), (true, 17), (true, 18), (false, 19), (true, 20), (true, 21)]
                      (by kernel_rfl) (by kernel_rfl) (by intro c a d v w h; cases d <;> exact h) ?_
                    intro W1 K1 C1
                    replace HI := Lib.hid (HI.out.below C1.out); replace LO := Lib.hid (LO.out.below C1.out); replace V := Lib.hid (V.out.below C1.out); replace Y := Lib.hid (Y.out.below C1.out); replace B := Lib.hid (gr_tr B.out C1.out)
                    repeat (refine wpS_firm rfl (fun K hK => ?_); simp only [Keep]; go_simp; refine hK _ ?_; clear hK K)
                    refine wpS_chain rfl ?_
                    go_wp2_with (go_at_call 12; go_loud (refine (num5_any _ _).mono ?_; rintro r w' ⟨rfl, rfl⟩))
                    refine ⟨K1.out, ?_⟩
                    repeat (refine wpS_firm rfl (fun K hK => ?_); simp only [Keep]; go_simp; refine hK _ ?_; clear hK K)
                    refine wpS_chain rfl ?_
                    go_wp2_with (go_at_call 11; go_loud (refine (same5_at _ _ lo l true W1 LO.out V.out HS1.out).mono ?_; rintro r w' ⟨rfl, rfl⟩))
                    refine ⟨K1.out, ?_⟩
                    repeat (refine wpS_firm rfl (fun K hK => ?_); simp only [Keep]; go_simp; refine hK _ ?_; clear hK K)
                    refine wpS_chain rfl ?_
                    go_wp2_with (go_at_call 11; go_loud (refine (same5_at _ _ hi E false W1 HI.out Y.out HS2.out).mono ?_; rintro r w' ⟨rfl, rfl⟩))
                    refine ⟨K1.out, ?_⟩
                    repeat (refine wpS_firm rfl (fun K hK => ?_); simp only [Keep]; go_simp; refine hK _ ?_; clear hK K)
                    refine wpS_chain rfl ?_
                    go_wp2_with (go_at_call 8; go_loud ((with_reducible refine (works5_any _).mono ?_); rintro r w9 ⟨rfl, hw⟩; replace B := Lib.hid (gr_tr B.out hw); have K2 := Lib.hid (K1.out.below hw); clear hw))
                    refine ⟨K2.out, ?_⟩
                    repeat (refine wpS_firm rfl (fun K hK => ?_); simp only [Keep]; go_simp; refine hK _ ?_; clear hK K)
                    unfold wpS
                    go_wp2_with fail
                    go_ret
                    exact ⟨rfl, B.out⟩
                  · have hz : (er == 0) = true := HLAW.out
                    refine wp_region_planW nowhere [(true, 0), (true, 3), (true, 4), (true, 5), (true, 6), (true, 7), (false, 1), (true, 2), (false, 8), (true, 9), (true, 10), (true, 11), (true, 12), (true, 13), (true, 14), (false, 15), (true, 16), (true, 17), (true, 18), (false, 19), (true, 20), (true, 21)]
                      (by kernel_rfl) (by kernel_rfl) (by intro c a d v w h; cases d <;> exact h) ?_
                    intro W1 K1 C1
                    replace HI := Lib.hid (HI.out.below C1.out); replace LO := Lib.hid (LO.out.below C1.out); replace V := Lib.hid (V.out.below C1.out); replace Y := Lib.hid (Y.out.below C1.out); replace B := Lib.hid (gr_tr B.out C1.out)
                    repeat (refine wpS_firm rfl (fun K hK => ?_); simp only [Keep]; go_simp; refine hK _ ?_; clear hK K)
                    refine wpS_chain rfl ?_
                    go_wp2_with (go_at_call 12; go_loud (refine (num5_any _ _).mono ?_; rintro r w' ⟨rfl, rfl⟩))
                    refine ⟨K1.out, ?_⟩
                    repeat (refine wpS_firm rfl (fun K hK => ?_); simp only [Keep]; go_simp; refine hK _ ?_; clear hK K)
                    refine wpS_chain rfl ?_
                    go_wp2_with (go_at_call 11; go_loud (refine (same5_at _ _ lo l true W1 LO.out V.out HS1.out).mono ?_; rintro r w' ⟨rfl, rfl⟩))
                    refine ⟨K1.out, ?_⟩
                    repeat (refine wpS_firm rfl (fun K hK => ?_); simp only [Keep]; go_simp; refine hK _ ?_; clear hK K)
                    refine wpS_chain rfl ?_
                    go_wp2_with (go_at_call 11; go_loud (refine (same5_at _ _ hi E true W1 HI.out Y.out HS2.out).mono ?_; rintro r w' ⟨rfl, rfl⟩))
                    refine ⟨K1.out, ?_⟩
                    repeat (refine wpS_firm rfl (fun K hK => ?_); simp only [Keep]; go_simp; refine hK _ ?_; clear hK K)
                    refine wpS_chain rfl ?_
                    go_wp2_with (go_at_call 8; go_loud ((with_reducible refine (works5_any _).mono ?_); rintro r w9 ⟨rfl, hw⟩; replace B := Lib.hid (gr_tr B.out hw); have K2 := Lib.hid (K1.out.below hw); clear hw))
                    refine ⟨K2.out, ?_⟩
                    repeat (refine wpS_firm rfl (fun K hK => ?_); simp only [Keep]; go_simp; refine hK _ ?_; clear hK K)
                    unfold wpS
                    go_wp2_with fail
                    go_ret
                    exact ⟨rfl, B.out⟩
  · have hd : decide ((l.length : Int) > 300) = true := by simp; omega
    clear h300 hK
    have hx := hd
    go_enter Try.func4, Try.ntmps4
    go_upto_region 1 with fail
    rw [← HW.out]
    go_wp2_with (go_at_call 8; go_loud ((with_reducible refine (works5_any _).mono ?_); rintro r w9 ⟨rfl, hw⟩; replace B := Lib.hid (gr_tr B.out hw); clear hw))
    go_ret
    exact ⟨rfl, B.out⟩
end Go.Proofs.Yteicmbapipnbjaa
