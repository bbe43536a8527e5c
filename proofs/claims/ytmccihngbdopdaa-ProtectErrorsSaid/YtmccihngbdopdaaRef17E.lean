/- The walks of capsuleref17: Insert. -/
import Derived.Test.YtmccihngbdopdaaRef17D
namespace Go.Proofs.Ytmccihngbdopdaa
open Go.RowKit
set_option linter.unusedVariables false
set_option linter.unusedSimpArgs false
set_option maxRecDepth 4000 in
set_option maxHeartbeats 800000 in
theorem rInsert_any (ty : Int) (fs : Bool) (v : Value) (l : List (BitVec 8)) (g a : BitVec 16) (r : BitVec 32) (w : World) (hv : BytesV w v l) (hs : l.length + 8 ≤ 140737488355328) :
    Calls Try.prog 33 #[.agg #[.int .i64 ty, .bool fs], v, .agg #[.int .u16 (uv g), .int .u16 (uv a), .int .u32 (uv r)]] w fun e w' => ∃ u, e = .returned (.tuple #[u, .int .i64 (Prot.ti ty fs)]) ∧ BytesV w' u (Prot.insert ty fs l (Prot.bytes g a r)) ∧ Below w.heap.size w w' := by
  obtain ⟨b1, h1⟩ : ∃ b, Prot.valid ty fs = b := ⟨_, rfl⟩
  obtain ⟨b2, h2⟩ : ∃ b, (ty == 0) = b := ⟨_, rfl⟩
  have hti : Prot.ti ty fs = Prot.err1 (!b1 || b2) := by rw [← h1, ← h2]; rfl
  unfold Prot.insert
  rw [hti]
  have H1 := Lib.hid h1; clear h1 hti
  have HV := Lib.hid hv; clear hv
  by_cases hbad : (!b1 || b2) = true
  · rw [hbad]
    cases b1
    · clear h2 hbad
      go_enter Try.func33, Try.ntmps33
      go_wp2_with (go_at_call 17; refine (rValid_at _ _ _ _ H1.out).mono ?_; rintro e w1 ⟨rfl, hw1⟩; have B1 := Lib.hid (gr_tr (gr_tr (gr_alloc _ _) (gr_alloc _ _)) hw1); clear hw1)
      go_ret2
      exact ⟨_, rfl, BytesV.nil _, B1.out⟩
    · obtain rfl : b2 = true := by simpa using hbad
      clear hbad
      go_enter Try.func33, Try.ntmps33
      go_wp2_with (go_at_call 17; refine (rValid_at _ _ _ _ H1.out).mono ?_; rintro e w1 ⟨rfl, hw1⟩; have d0 : w1.cell? ⟨w.heap.size, 0, none⟩ = some (.int .i64 ty) := below_get hw1 (by simp [go_sem]); have B1 := Lib.hid (gr_tr (gr_tr (gr_alloc _ _) (gr_alloc _ _)) hw1); clear hw1)
      go_ret2
      exact ⟨_, rfl, BytesV.nil _, B1.out⟩
  · obtain ⟨rfl, rfl⟩ : b1 = true ∧ b2 = false := by cases b1 <;> cases b2 <;> simp at hbad ⊢
    clear hbad
    obtain ⟨k, hk⟩ : ∃ k, Prot.bytes g a r = k := ⟨_, rfl⟩
    have hk8 : k.length = 8 := by rw [← hk]; exact Prot.bytes_len g a r
    rw [hk]
    have HK := Lib.hid hk; clear hk
    have HK8 := Lib.hid hk8; clear hk8
    have HS := Lib.hid hs; clear hs
    obtain ⟨av, cv, rfl, n1, n2, n3, n4⟩ := id HV.out
    have N1 := Lib.hid n1; clear n1
    have N2 := Lib.hid n2; clear n2 n3
    have N4 := Lib.hid n4; clear n4
    cases fs
    · go_enter Try.func33, Try.ntmps33
      go_wp2_with (go_at_call 17; refine (rValid_at _ _ _ _ H1.out).mono ?_; rintro e w1 ⟨rfl, hw1⟩; have d0 : w1.cell? ⟨w.heap.size, 0, none⟩ = some (.int .i64 ty) := below_get hw1 (by simp [go_sem]); have d1 : w1.cell? ⟨w.heap.size, 1, none⟩ = some (.bool false) := below_get hw1 (by simp [go_sem]); have t0 : ∀ y : KeepT nowhere w1, y.val.cell? ⟨w.heap.size + 1, 0, none⟩ = some (.int .u16 (uv g)) := fun y => y.cell (below_get hw1 (by simp [go_sem])) id; have t1 : ∀ y : KeepT nowhere w1, y.val.cell? ⟨w.heap.size + 1, 1, none⟩ = some (.int .u16 (uv a)) := fun y => y.cell (below_get hw1 (by simp [go_sem])) id; have t2 : ∀ y : KeepT nowhere w1, y.val.cell? ⟨w.heap.size + 1, 2, none⟩ = some (.int .u32 (uv r)) := fun y => y.cell (below_get hw1 (by simp [go_sem])) id; have B1 := Lib.hid (gr_tr (gr_tr (gr_alloc _ _) (gr_alloc _ _)) hw1); clear hw1)
      refine wp_region_planW nowhere [(true, 1), (true, 3), (false, 0), (false, 2), (false, 4), (false, 5), (true, 6), (true, 7)]
        (by kernel_rfl) (by kernel_rfl) (by intro c a d v w h; cases d <;> exact h) ?_
      intro W1 K1 C1
      have V1 := Lib.hid ((HV.out.below B1.out).below C1.out)
      repeat (refine wpS_firm rfl (fun K hK => ?_); simp only [Keep]; go_simp; refine hK _ ?_; clear hK K)
      refine wpS_chain rfl ?_
      go_wp2_with fail
      refine ⟨K1.out.alloc _, ?_⟩
      refine wpS_chain rfl ?_
      refine app_fresh rfl (.tmp 22) (.tmp 23) rfl _ rfl rfl _ l rfl V1.out (by have := HS.out; omega) ?_
      intro v2 w2 hown hb
      have O2 := Lib.hid hown; clear hown
      have B2 := Lib.hid hb; clear hb
      go_wp2_with fail
      refine ⟨K1.out.below B2.out, ?_⟩
      refine wpS_chain rfl ?_
      go_wp2_with (go_at_call 13; refine (Bytes_any g a r _).mono ?_; rintro e w3 ⟨u, rfl, hown, hw3⟩; rw [HK.out] at hown; have O3 := Lib.hid hown; have B3 := Lib.hid hw3; clear hown hw3)
      refine ⟨(K1.out.below B2.out).below B3.out, ?_⟩
      refine wpS_chain rfl ?_
      refine app_more rfl (.tmp 24) (.tmp 26) rfl v2 W1.heap.size l.length l rfl (own_below O2.out B3.out) (gr_tr B2.out B3.out).size u k rfl (BytesV.of_own (by rw [HK8.out]; exact O3.out)) (by have := HS.out; have := HK8.out; omega) ?_
      intro v4 w4 hown _ hb
      have O4 := Lib.hid (BytesV.of_own (l := l ++ k) (by rw [List.length_append]; exact hown)); clear hown
      have B4 := Lib.hid (hb.mono (B' := w1.heap.size) C1.out.size); clear hb
      go_wp2_with fail
      refine ⟨((K1.out.below B2.out).below B3.out).base B4.out, ?_⟩
      repeat (refine wpS_firm rfl (fun K hK => ?_); simp only [Keep]; go_simp; refine hK _ ?_; clear hK K)
      unfold wpS
      go_wp2_with fail
      go_ret2
      exact ⟨_, rfl, O4.out, (gr_tr B1.out (gr_tr C1.out (gr_tr B2.out B3.out))).trans (B4.out.mono B1.out.size)⟩
    · go_enter Try.func33, Try.ntmps33
      go_wp2_with (first
        | (go_at_call 17; refine (rValid_at _ _ _ _ H1.out).mono ?_; rintro e w1 ⟨rfl, hw1⟩; have d0 : w1.cell? ⟨w.heap.size, 0, none⟩ = some (.int .i64 ty) := below_get hw1 (by simp [go_sem]); have d1 : w1.cell? ⟨w.heap.size, 1, none⟩ = some (.bool true) := below_get hw1 (by simp [go_sem]); have t0 : w1.cell? ⟨w.heap.size + 1, 0, none⟩ = some (.int .u16 (uv g)) := below_get hw1 (by simp [go_sem]); have t1 : w1.cell? ⟨w.heap.size + 1, 1, none⟩ = some (.int .u16 (uv a)) := below_get hw1 (by simp [go_sem]); have t2 : w1.cell? ⟨w.heap.size + 1, 2, none⟩ = some (.int .u32 (uv r)) := below_get hw1 (by simp [go_sem]); have B1 := Lib.hid (gr_tr (gr_tr (gr_alloc _ _) (gr_alloc _ _)) hw1); clear hw1)
        | (go_at_call 13; refine (Bytes_any g a r _).mono ?_; rintro e w2 ⟨u, rfl, hown, hw2⟩; rw [HK.out] at hown; have O2 := Lib.hid hown; have B2 := Lib.hid (gr_tr B1.out hw2); have Z2 := Lib.hid hw2.size; clear hown hw2)
        | (at_builtin; refine app_law bytesOk rfl (.tmp 19) (.tmp 20) rfl w1.heap.size u 8 (by8 k) rfl O2.out av l.length cv (by8 l) rfl N1.out N2.out (N4.out.below B2.out) (by simp) (by8_one l) (by have := HS.out; omega) (by have := HS.out; omega) Z2.out ?_; intro v3 w3 hown hgrow _; rw [← by8_append] at hown; have O3 := Lib.hid (BytesV.of_own (l := k ++ l) (by rw [List.length_append, HK8.out]; exact hown)); have B3 := Lib.hid (B2.out.grown hgrow B2.out.size (fun k hk => Nat.le_trans B1.out.size ((O2.out.lt) k hk).1)); clear hown hgrow))
      go_ret2
      exact ⟨_, rfl, O3.out, B3.out⟩
end Go.Proofs.Ytmccihngbdopdaa
