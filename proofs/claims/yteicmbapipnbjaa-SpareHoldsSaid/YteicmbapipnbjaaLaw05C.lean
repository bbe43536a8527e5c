/- The walks of SpareNames and SpareEncodes. -/
import Derived.Test.YteicmbapipnbjaaLaw05B
namespace Go.Proofs.Yteicmbapipnbjaa
open Go.RowKit
set_option linter.unusedVariables false
set_option linter.unusedSimpArgs false
theorem lawNames (k : BitVec 8) (w : World) : Calls Try.prog 7 #[.int .u8 (uv k)] w fun e w' => e = .returned (.bool true) ∧ Below w.heap.size w w' := by
  obtain ⟨s, hs⟩ : ∃ s, Sp.nm (uv k) = s := ⟨_, rfl⟩
  have HS := Lib.hid hs; clear hs
  go_enter Try.func7, Try.ntmps7
  go_wp2_with (first
    | (go_at_call 19; go_loud (refine (Name5_any k s _ HS.out).mono ?_; rintro r w1 ⟨rfl, hw⟩; have B := Lib.hid hw; clear hw))
    | (go_at_call 20; go_loud (refine (rName5_any k s _ HS.out).mono ?_; rintro r w2 ⟨rfl, hw⟩; replace B := Lib.hid (gr_tr B.out hw); clear hw))
    | (go_at_call 8; go_loud (refine (works5_any _).mono ?_; rintro r w3 ⟨rfl, hw⟩; replace B := Lib.hid (gr_tr B.out hw); clear hw)))
  go_ret
  exact ⟨rfl, B.out⟩
set_option maxRecDepth 8000 in
set_option maxHeartbeats 1600000 in
theorem lawEncodes (k : BitVec 8) (s : Int) (q p : BitVec 64) (i n : Int) (v : Value) (l : List (BitVec 8)) (w : World) (hv : BytesV w v l) :
    Calls Try.prog 3 #[.agg #[.int .u8 (uv k), .int .i64 s, .int .u64 (uv q), .int .u64 (uv p), .int .i64 i, .int .i64 n], v] w fun e w' => e = .returned (.bool true) ∧ Below w.heap.size w w' := by
  have hb0 := gr_alloc w (.cells #[.int .u8 (uv k), .int .i64 s, .int .u64 (uv q), .int .u64 (uv p), .int .i64 i, .int .i64 n] 25)
  have hs0 := heap_alloc_new w (.cells #[.int .u8 (uv k), .int .i64 s, .int .u64 (uv q), .int .u64 (uv p), .int .i64 i, .int .i64 n] 25)
  obtain ⟨W, hW⟩ : ∃ W, W = w.alloc (.cells #[.int .u8 (uv k), .int .i64 s, .int .u64 (uv q), .int .u64 (uv p), .int .i64 i, .int .i64 n] 25) := ⟨_, rfl⟩
  rw [← hW] at hb0 hs0
  have hV := hv.below hb0
  obtain ⟨av, cv, rfl, -⟩ := id hv
  have HW := Lib.hid hW; have B := Lib.hid hb0; have S0 := Lib.hid hs0; have V := Lib.hid hV; clear hW hb0 hs0 hV hv
  by_cases h300 : l.length ≤ 300
  · have HL := Lib.hid (show l.length ≤ 1000000 by omega); have HL2 := Lib.hid (show l.length ≤ 140737488355328 by omega)
    have hd : decide ((l.length : Int) > 300) = false := by simp; omega
    clear h300
    obtain ⟨vb, hvb⟩ : ∃ b, Sp.valid k s q p i n = b := ⟨_, rfl⟩
    have HVB := Lib.hid hvb; clear hvb
    cases vb
    · go_enter Try.func3, Try.ntmps3
      go_upto_region 1 with fail
      rw [← HW.out]
      go_upto_region 6 with (first
        | (at_builtin; refine app_fresh rfl (.tmp 14) (.tmp 15) rfl _ rfl rfl _ l rfl V.out HL2.out ?_; intro x w1 hx hw; have X := Lib.hid (BytesV.of_own hx); replace V := Lib.hid (V.out.below hw); replace S0 := Lib.hid (blk_below S0.out hw); replace B := Lib.hid (gr_tr B.out hw); clear hw hx)
        | (refine wpList_load_row rfl 25 (.tmp 2) rfl w.heap.size rfl 25 _ (0, 0) _ S0.out Try.underlying25 rfl (by kernel_rfl) ?_)
        | (go_at_call 9; go_loud ((with_reducible refine (Encode5_no k s q p i n _ _ HVB.out).mono ?_); rintro r w2 ⟨rfl, hw⟩; replace X := Lib.hid (X.out.below hw); replace V := Lib.hid (V.out.below hw); replace S0 := Lib.hid (blk_below S0.out hw); replace B := Lib.hid (gr_tr B.out hw); clear hw))
        | (go_at_call 10; go_loud ((with_reducible refine (rEncode5_no k s q p i n _ _ HVB.out).mono ?_); rintro r w3 ⟨rfl, hw⟩; replace X := Lib.hid (X.out.below hw); replace V := Lib.hid (V.out.below hw); replace S0 := Lib.hid (blk_below S0.out hw); replace B := Lib.hid (gr_tr B.out hw); clear hw)))
      obtain ⟨r0, r1, r2, r3, r4, r5⟩ := row6 S0.out
      have q0 : ∀ y : KeepT nowhere w3, y.val.cell? ⟨w.heap.size, 0, none⟩ = some (.int .u8 (uv k)) := fun y => y.cell r0 id
      have q1 : ∀ y : KeepT nowhere w3, y.val.cell? ⟨w.heap.size, 1, none⟩ = some (.int .i64 s) := fun y => y.cell r1 id
      have q2 : ∀ y : KeepT nowhere w3, y.val.cell? ⟨w.heap.size, 2, none⟩ = some (.int .u64 (uv q)) := fun y => y.cell r2 id
      have q3 : ∀ y : KeepT nowhere w3, y.val.cell? ⟨w.heap.size, 3, none⟩ = some (.int .u64 (uv p)) := fun y => y.cell r3 id
      have q4 : ∀ y : KeepT nowhere w3, y.val.cell? ⟨w.heap.size, 4, none⟩ = some (.int .i64 i) := fun y => y.cell r4 id
      have q5 : ∀ y : KeepT nowhere w3, y.val.cell? ⟨w.heap.size, 5, none⟩ = some (.int .i64 n) := fun y => y.cell r5 id
      clear r0 r1 r2 r3 r4 r5
      refine wp_region_planW nowhere [(true, 0), (true, 1), (false, 2), (true, 3), (true, 4), (true, 6), (false, 5), (true, 7), (true, 8), (true, 9), (true, 10), (true, 11), (false, 12), (true, 13), (true, 14), (true, 15), (true, 17), (false, 16), (false, 18), (true, 19), (true, 20), (true, 21), (false, 22), (true, 23), (true, 24)]
        (by kernel_rfl) (by kernel_rfl) (by intro c a d v w h; cases d <;> exact h) ?_
      intro W1 K1 C1
      replace X := Lib.hid (X.out.below C1.out); replace V := Lib.hid (V.out.below C1.out); replace B := Lib.hid (gr_tr B.out C1.out)
      repeat (refine wpS_firm rfl (fun K hK => ?_); simp only [Keep]; go_simp; refine hK _ ?_; clear hK K)
      refine wpS_chain rfl ?_
      go_wp2_with (go_at_call 11; go_loud (refine (same5_at _ _ [] [] true W1 (BytesV.nil _) (BytesV.nil _) (by simp)).mono ?_; rintro r w' ⟨rfl, rfl⟩))
      refine ⟨K1.out, ?_⟩
      repeat (refine wpS_firm rfl (fun K hK => ?_); simp only [Keep]; go_simp; refine hK _ ?_; clear hK K)
      refine wpS_chain rfl ?_
      go_wp2_with (go_at_call 12; go_loud (refine (num5_any _ _).mono ?_; rintro r w' ⟨rfl, rfl⟩))
      refine ⟨K1.out, ?_⟩
      repeat (refine wpS_firm rfl (fun K hK => ?_); simp only [Keep]; go_simp; refine hK _ ?_; clear hK K)
      refine wpS_chain rfl ?_
      go_wp2_with (go_at_call 11; go_loud (refine (same5_at _ _ l l true W1 X.out V.out (by simp)).mono ?_; rintro r w' ⟨rfl, rfl⟩))
      refine ⟨K1.out, ?_⟩
      repeat (refine wpS_firm rfl (fun K hK => ?_); simp only [Keep]; go_simp; refine hK _ ?_; clear hK K)
      refine wpS_chain rfl ?_
      go_wp2_with (go_at_call 13; go_loud ((with_reducible refine (Valid_any k s q p i n _ _ HVB.out).mono ?_); rintro r w5 ⟨rfl, hw⟩; replace B := Lib.hid (gr_tr B.out hw); have K2 := Lib.hid (K1.out.below hw); clear hw))
      refine ⟨K2.out, ?_⟩
      repeat (refine wpS_firm rfl (fun K hK => ?_); simp only [Keep]; go_simp; refine hK _ ?_; clear hK K)
      refine wpS_chain rfl ?_
      go_wp2_with (go_at_call 14; go_loud ((with_reducible refine (rValid5_any k s q p i n _ _ HVB.out).mono ?_); rintro r w6 ⟨rfl, hw⟩; replace B := Lib.hid (gr_tr B.out hw); have K3 := Lib.hid (K2.out.below hw); clear hw))
      refine ⟨K3.out, ?_⟩
      repeat (refine wpS_firm rfl (fun K hK => ?_); simp only [Keep]; go_simp; refine hK _ ?_; clear hK K)
      refine wpS_chain rfl ?_
      go_wp2_with (go_at_call 8; go_loud ((with_reducible refine (works5_any _).mono ?_); rintro r w7 ⟨rfl, hw⟩; replace B := Lib.hid (gr_tr B.out hw); have K4 := Lib.hid (K3.out.below hw); clear hw))
      refine ⟨K4.out, ?_⟩
      repeat (refine wpS_firm rfl (fun K hK => ?_); simp only [Keep]; go_simp; refine hK _ ?_; clear hK K)
      unfold wpS
      go_wp2_with fail
      go_ret
      exact ⟨rfl, B.out⟩
    · go_enter Try.func3, Try.ntmps3
      go_upto_region 1 with fail
      rw [← HW.out]
      go_upto_region 6 with (first
        | (at_builtin; refine app_fresh rfl (.tmp 14) (.tmp 15) rfl _ rfl rfl _ l rfl V.out HL2.out ?_; intro x w1 hx hw; have X := Lib.hid (BytesV.of_own hx); replace V := Lib.hid (V.out.below hw); replace S0 := Lib.hid (blk_below S0.out hw); replace B := Lib.hid (gr_tr B.out hw); clear hw hx)
        | (refine wpList_load_row rfl 25 (.tmp 2) rfl w.heap.size rfl 25 _ (0, 0) _ S0.out Try.underlying25 rfl (by kernel_rfl) ?_)
        | (go_at_call 9; go_loud ((with_reducible refine (Encode5_ok k s q p i n _ l _ HVB.out X.out HL.out).mono ?_); rintro r w2 ⟨y, rfl, hy, hw⟩; replace X := Lib.hid (X.out.below hw); replace V := Lib.hid (V.out.below hw); replace S0 := Lib.hid (blk_below S0.out hw); replace B := Lib.hid (gr_tr B.out hw); have Y := Lib.hid (BytesV.of_own hy); clear hy; clear hw))
        | (go_at_call 10; go_loud ((with_reducible refine (rEncode5_ok k s q p i n _ l _ HVB.out V.out HL.out).mono ?_); rintro r w3 ⟨z, rfl, hz, hw⟩; replace X := Lib.hid (X.out.below hw); replace V := Lib.hid (V.out.below hw); replace Y := Lib.hid (Y.out.below hw); replace S0 := Lib.hid (blk_below S0.out hw); replace B := Lib.hid (gr_tr B.out hw); have Z := Lib.hid (BytesV.of_own hz); clear hz; clear hw)))
      obtain ⟨r0, r1, r2, r3, r4, r5⟩ := row6 S0.out
      have q0 : ∀ y : KeepT nowhere w3, y.val.cell? ⟨w.heap.size, 0, none⟩ = some (.int .u8 (uv k)) := fun y => y.cell r0 id
      have q1 : ∀ y : KeepT nowhere w3, y.val.cell? ⟨w.heap.size, 1, none⟩ = some (.int .i64 s) := fun y => y.cell r1 id
      have q2 : ∀ y : KeepT nowhere w3, y.val.cell? ⟨w.heap.size, 2, none⟩ = some (.int .u64 (uv q)) := fun y => y.cell r2 id
      have q3 : ∀ y : KeepT nowhere w3, y.val.cell? ⟨w.heap.size, 3, none⟩ = some (.int .u64 (uv p)) := fun y => y.cell r3 id
      have q4 : ∀ y : KeepT nowhere w3, y.val.cell? ⟨w.heap.size, 4, none⟩ = some (.int .i64 i) := fun y => y.cell r4 id
      have q5 : ∀ y : KeepT nowhere w3, y.val.cell? ⟨w.heap.size, 5, none⟩ = some (.int .i64 n) := fun y => y.cell r5 id
      clear r0 r1 r2 r3 r4 r5
      refine wp_region_planW nowhere [(true, 0), (true, 1), (false, 2), (true, 3), (true, 4), (true, 6), (false, 5), (true, 7), (true, 8), (true, 9), (true, 10), (true, 11), (false, 12), (true, 13), (true, 14), (true, 15), (true, 17), (false, 16), (false, 18), (true, 19), (true, 20), (true, 21), (false, 22), (true, 23), (true, 24)]
        (by kernel_rfl) (by kernel_rfl) (by intro c a d v w h; cases d <;> exact h) ?_
      intro W1 K1 C1
      replace X := Lib.hid (X.out.below C1.out); replace V := Lib.hid (V.out.below C1.out); replace B := Lib.hid (gr_tr B.out C1.out)
      replace Y := Lib.hid (Y.out.below C1.out); replace Z := Lib.hid (Z.out.below C1.out)
      repeat (refine wpS_firm rfl (fun K hK => ?_); simp only [Keep]; go_simp; refine hK _ ?_; clear hK K)
      refine wpS_chain rfl ?_
      go_wp2_with (go_at_call 11; go_loud (refine (same5_at _ _ (Sp.enc k s q p i n l) (Sp.enc k s q p i n l) true W1 Y.out Z.out (by simp)).mono ?_; rintro r w' ⟨rfl, rfl⟩))
      refine ⟨K1.out, ?_⟩
      repeat (refine wpS_firm rfl (fun K hK => ?_); simp only [Keep]; go_simp; refine hK _ ?_; clear hK K)
      refine wpS_chain rfl ?_
      go_wp2_with (go_at_call 12; go_loud (refine (num5_any _ _).mono ?_; rintro r w' ⟨rfl, rfl⟩))
      refine ⟨K1.out, ?_⟩
      repeat (refine wpS_firm rfl (fun K hK => ?_); simp only [Keep]; go_simp; refine hK _ ?_; clear hK K)
      refine wpS_chain rfl ?_
      go_wp2_with (go_at_call 11; go_loud (refine (same5_at _ _ l l true W1 X.out V.out (by simp)).mono ?_; rintro r w' ⟨rfl, rfl⟩))
      refine ⟨K1.out, ?_⟩
      repeat (refine wpS_firm rfl (fun K hK => ?_); simp only [Keep]; go_simp; refine hK _ ?_; clear hK K)
      refine wpS_chain rfl ?_
      go_wp2_with (go_at_call 13; go_loud ((with_reducible refine (Valid_any k s q p i n _ _ HVB.out).mono ?_); rintro r w5 ⟨rfl, hw⟩; replace B := Lib.hid (gr_tr B.out hw); have K2 := Lib.hid (K1.out.below hw); clear hw))
      refine ⟨K2.out, ?_⟩
      repeat (refine wpS_firm rfl (fun K hK => ?_); simp only [Keep]; go_simp; refine hK _ ?_; clear hK K)
      refine wpS_chain rfl ?_
      go_wp2_with (go_at_call 14; go_loud ((with_reducible refine (rValid5_any k s q p i n _ _ HVB.out).mono ?_); rintro r w6 ⟨rfl, hw⟩; replace B := Lib.hid (gr_tr B.out hw); have K3 := Lib.hid (K2.out.below hw); clear hw))
      refine ⟨K3.out, ?_⟩
      repeat (refine wpS_firm rfl (fun K hK => ?_); simp only [Keep]; go_simp; refine hK _ ?_; clear hK K)
      refine wpS_chain rfl ?_
      go_wp2_with (go_at_call 8; go_loud ((with_reducible refine (works5_any _).mono ?_); rintro r w7 ⟨rfl, hw⟩; replace B := Lib.hid (gr_tr B.out hw); have K4 := Lib.hid (K3.out.below hw); clear hw))
      refine ⟨K4.out, ?_⟩
      repeat (refine wpS_firm rfl (fun K hK => ?_); simp only [Keep]; go_simp; refine hK _ ?_; clear hK K)
      unfold wpS
      go_wp2_with fail
      go_ret
      exact ⟨rfl, B.out⟩
  · have hd : decide ((l.length : Int) > 300) = true := by simp; omega
    clear h300
    go_enter Try.func3, Try.ntmps3
    go_upto_region 1 with fail
    rw [← HW.out]
    go_wp2_with (go_at_call 8; go_loud ((with_reducible refine (works5_any _).mono ?_); rintro r w9 ⟨rfl, hw⟩; replace B := Lib.hid (gr_tr B.out hw); clear hw))
    go_ret
    exact ⟨rfl, B.out⟩
end Go.Proofs.Yteicmbapipnbjaa
