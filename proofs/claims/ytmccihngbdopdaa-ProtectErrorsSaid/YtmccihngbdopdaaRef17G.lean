/- The walks of capsuleref17: Generate. -/
import Derived.Test.YtmccihngbdopdaaRef17F
namespace Go.Proofs.Ytmccihngbdopdaa
open Go.RowKit
set_option linter.unusedVariables false
set_option linter.unusedSimpArgs false
theorem rGuard_at (ty : Int) (fs : Bool) (v m : Value) (lv lm : List (BitVec 8)) (g : BitVec 16) (w : World) (hv : BytesV w v lv) (hm : BytesV w m lm) (h8 : 0 < ty → 8 ≤ lm.length) (h0 : 0 ≤ ty) (hs : lv.length + lm.length ≤ 140737488355328) (hg : Prot.guard ty fs lv lm = g) :
    Calls Try.prog 24 #[.agg #[.int .i64 ty, .bool fs], v, m] w fun e w' => e = .returned (.int .u16 (uv g)) ∧ Below w.heap.size w w' := by
  subst hg; exact rGuard_any ty fs v m lv lm w hv hm h8 h0 hs
set_option maxRecDepth 4000 in
set_option maxHeartbeats 800000 in
theorem rGenerate_any (ty : Int) (fs : Bool) (v m : Value) (lv lm : List (BitVec 8)) (a : BitVec 16) (r : BitVec 32) (w : World) (hv : BytesV w v lv) (hm : BytesV w m lm) (hs : lv.length + lm.length ≤ 140737488355000) :
    Calls Try.prog 21 #[.agg #[.int .i64 ty, .bool fs], v, m, .int .u16 (uv a), .int .u32 (uv r)] w fun e w' => ∃ u, e = .returned (.tuple #[u, .int .i64 (Prot.wr ty fs false lm.length)]) ∧ BytesV w' u (Prot.gen ty fs lv lm a r) ∧ Below w.heap.size w w' := by
  obtain ⟨n, hn⟩ : ∃ n, Prot.wr ty fs false lm.length = n := ⟨_, rfl⟩
  unfold Prot.gen
  rw [hn]
  have HN := Lib.hid hn; clear hn
  have HV := Lib.hid hv; clear hv
  have HM := Lib.hid hm; clear hm
  have hs1 : lv.length + lm.length ≤ 140737488355328 := by omega
  have hs2 : lm.length ≤ 140737488355328 := by omega
  have HS1 := Lib.hid hs1; clear hs1
  have HS2 := Lib.hid hs2; clear hs2 hs
  have hc := HN.out ▸ Prot.wr_cases ty fs false lm.length
  rcases hc with rfl | rfl | rfl
  · obtain ⟨hok, -, h8⟩ := Prot.wr_ok HN.out
    have hr := (Prot.valid_range hok).1; clear hok
    rw [if_pos rfl]
    by_cases h0 : ty = 0
    · subst h0
      clear h8 hr
      go_enter Try.func21, Try.ntmps21
      go_wp2_with (first
        | (go_at_call 23; refine (Wrong_any _ _ _ _ 0 _ (HM.out.below (gr_alloc _ _)) HN.out).mono ?_; rintro e w1 ⟨rfl, hw1⟩; have d0 : w1.cell? ⟨w.heap.size, 0, none⟩ = some (.int .i64 0) := below_get hw1 (by simp [go_sem]); have B1 := Lib.hid (gr_tr (gr_alloc _ _) hw1); clear hw1)
        | (at_builtin; refine app_fresh rfl (.tmp 20) (.tmp 21) rfl _ rfl rfl _ lm rfl (HM.out.below B1.out) HS2.out ?_; intro v2 w2 hown hb; replace d0 := below_get hb d0; have O2 := Lib.hid (BytesV.of_own hown); have B2 := Lib.hid (gr_tr B1.out hb); clear hown hb))
      go_ret2
      exact ⟨_, rfl, O2.out, B2.out⟩
    · have hpos : decide (ty > 0) = true := by simp; omega
      have hl8 : 8 ≤ lm.length := h8 (by omega)
      rw [if_neg h0]
      obtain ⟨g, hg⟩ : ∃ g, Prot.guard ty fs lv lm = g := ⟨_, rfl⟩
      rw [hg]
      obtain ⟨k, hk⟩ : ∃ k, Prot.bytes g a r = k := ⟨_, rfl⟩
      have hk8 : k.length = 8 := by rw [← hk]; exact Prot.bytes_len g a r
      rw [hk]
      obtain ⟨p, hp⟩ : ∃ p, Prot.place fs lm.length = p := ⟨_, rfl⟩
      have hpl : p + 8 ≤ lm.length := by subst hp; unfold Prot.place; split <;> omega
      rw [hp]
      have HG := Lib.hid hg; clear hg
      have HK := Lib.hid hk; clear hk
      have HK8 := Lib.hid hk8; clear hk8
      have HP := Lib.hid hp; clear hp
      have HL8 := Lib.hid hl8; clear hl8
      have HPL := Lib.hid hpl; clear hpl
      have H8 := Lib.hid h8; clear h8
      have HR := Lib.hid hr; clear hr h0
      go_enter Try.func21, Try.ntmps21
      go_wp2_with (first
        | (go_at_call 23; refine (Wrong_any _ _ _ _ 0 _ (HM.out.below (gr_alloc _ _)) HN.out).mono ?_; rintro e w1 ⟨rfl, hw1⟩; have d0 : w1.cell? ⟨w.heap.size, 0, none⟩ = some (.int .i64 ty) := below_get hw1 (by simp [go_sem]); have d1 : w1.cell? ⟨w.heap.size, 1, none⟩ = some (.bool fs) := below_get hw1 (by simp [go_sem]); have Z1 := Lib.hid (block_lt_of_cell d0); have B1 := Lib.hid (gr_tr (gr_alloc _ _) hw1); clear hw1)
        | (at_builtin; refine app_fresh rfl (.tmp 20) (.tmp 21) rfl _ rfl rfl _ lm rfl (HM.out.below B1.out) HS2.out ?_; intro v2 w2 hown hb; replace d0 := below_get hb d0; replace d1 := below_get hb d1; have O2 := Lib.hid hown; have B2 := Lib.hid (gr_tr B1.out hb); have Z2 := Lib.hid hb.size; clear hown hb))
      obtain ⟨q, cap, hq, hqb, hql, rq⟩ := own_from O2.out p (by have := HPL.out; omega)
      have HQ := Lib.hid hq; clear hq
      have hqw : w.heap.size < q := Nat.lt_of_lt_of_le Z1.out hqb
      have q0 : ∀ y : KeepT (fun k => k = q) w2, y.val.cell? ⟨w.heap.size, 0, none⟩ = some (.int .i64 ty) := fun y => y.cell d0 (by omega)
      have q1 : ∀ y : KeepT (fun k => k = q) w2, y.val.cell? ⟨w.heap.size, 1, none⟩ = some (.bool fs) := fun y => y.cell d1 (by omega)
      have HQB := Lib.hid hqb; clear hqb
      have HQL := Lib.hid hql; clear hql
      have HQW := Lib.hid hqw; clear hqw
      refine wp_region_planW (fun k => k = q) [(true, 0), (true, 1), (true, 2), (true, 5), (true, 6), (true, 7), (true, 9), (true, 10), (false, 3), (true, 4), (false, 8), (true, 11), (false, 12), (false, 13)]
        (by kernel_rfl) (by kernel_rfl) (by intro c a d v w h; cases d <;> exact h) ?_
      intro W1 K1 C1
      have D1 := Lib.hid (gr_tr B2.out C1.out)
      repeat (refine wpS_firm rfl (fun K hK => ?_); simp only [Keep]; go_simp; refine hK _ ?_; clear hK K)
      refine wpS_chain rfl ?_
      go_wp2_with (go_at_call 42; refine (place_any _ _ _ _ p _ (HM.out.below D1.out) HL8.out HP.out).mono ?_; rintro e w3 ⟨rfl, hw3⟩; have C3 := Lib.hid (gr_tr C1.out hw3); have K3 := Lib.hid (K1.out.below hw3); clear hw3)
      refine ⟨K3.out, ?_⟩
      repeat (refine wpS_firm rfl (fun K hK => ?_); simp only [Keep]; go_simp; refine hK _ ?_; clear hK K)
      refine wpS_chain rfl ?_
      have D3 := Lib.hid (gr_tr B2.out C3.out)
      go_wp2_with (go_at_call 24; refine (rGuard_at _ _ _ _ _ _ _ _ (HV.out.below D3.out) (HM.out.below D3.out) H8.out HR.out HS1.out HG.out).mono ?_; rintro e w4 ⟨rfl, hw4⟩; have C4 := Lib.hid (gr_tr C3.out hw4); have K4 := Lib.hid (K3.out.below hw4); clear hw4)
      refine ⟨K4.out, ?_⟩
      repeat (refine wpS_firm rfl (fun K hK => ?_); simp only [Keep]; go_simp; refine hK _ ?_; clear hK K)
      refine wpS_chain rfl ?_
      go_wp2_with (go_at_call 13; refine (Bytes_any g a r _).mono ?_; rintro e w5 ⟨u, rfl, hown, hw5⟩; rw [HK.out] at hown; have U5 := Lib.hid (BytesV.of_own (l := k) (by rw [HK8.out]; exact hown)); have C5 := Lib.hid (gr_tr C4.out hw5); have K5 := Lib.hid (K4.out.below hw5); clear hown hw5)
      refine ⟨K5.out, ?_⟩
      refine wpS_chain rfl ?_
      have O5 := Lib.hid (own_below O2.out C5.out)
      refine copy_into rfl (.tmp 30) (.tmp 38) rfl w1.heap.size q lm.length cap p lm k rfl u rfl (by rw [← HQ.out]; exact O5.out) U5.out (by rw [HK8.out]; exact HPL.out) (by rw [HK8.out]; omega) ?_
      intro w6 hown hgr hb6
      have O6 := Lib.hid hown; clear hown
      have B6 := Lib.hid hb6; clear hb6
      have K6 : Keep (fun k => k = q) w2 w6 := ⟨⟨w6, Nat.le_trans C5.out.size hgr.size, fun i hi hn => (hgr.block i (Nat.lt_of_lt_of_le hi C5.out.size) (by intro e; injection e with e; exact hn e)).trans (C5.out.block i hi)⟩, rfl⟩
      have HK6 := Lib.hid K6; clear K6 hgr
      go_wp2_with fail
      refine ⟨HK6.out, ?_⟩
      unfold wpS
      go_wp2_with fail
      go_ret2
      refine ⟨_, rfl, ?_, (gr_tr B2.out C5.out).trans (B6.out.mono B1.out.size)⟩
      rw [HQ.out]
      have hlen : (lm.take p ++ (k ++ lm.drop (p + k.length))).length = lm.length := by
        have := HPL.out; have := HK8.out
        simp only [List.length_append, List.length_take, List.length_drop]; omega
      have hO := O6.out
      have hfin := BytesV.of_own (l := lm.take p ++ (k ++ lm.drop (p + k.length))) (by rw [hlen]; exact hO)
      rw [HK8.out] at hfin
      rw [List.append_assoc]
      exact hfin
  all_goals
    go_enter Try.func21, Try.ntmps21
    go_wp2_with (first
      | (go_at_call 23; refine (Wrong_any _ _ _ _ _ _ (HM.out.below (gr_alloc _ _)) HN.out).mono ?_; rintro e w1 ⟨rfl, hw1⟩; have B1 := Lib.hid (gr_tr (gr_alloc _ _) hw1); clear hw1))
    go_ret2
    exact ⟨_, rfl, BytesV.nil _, B1.out⟩
end Go.Proofs.Ytmccihngbdopdaa
