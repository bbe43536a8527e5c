/- Descriptions of pages: the walk of the reference's Decode. -/
import Derived.Test.YteicmbapipnbjaaSpareO
import Derived.Test.YteicmbapipnbjaaRows2
import Derived.Deep.DeepCutAuto
namespace Go.Proofs.Yteicmbapipnbjaa
open Go.RowKit
set_option linter.unusedVariables false
set_option linter.unusedSimpArgs false
theorem get5_at (u : Value) (l : List (BitVec 8)) (p n : Nat) (P N : Int) (x : BitVec 64) (w : World) (hu : BytesV w u l) (hP : P = p) (hN : N = n) (hp : p + n ≤ l.length) (hx : Wire.get ((l.drop p).take n) = x) :
    Calls Try.prog 36 #[u, .int .i64 P, .int .i64 N] w fun e w' => e = .returned (.int .u64 (uv x)) ∧ w = w' := by
  subst hP hN; exact get5_any u l p n x w hu hp hx
theorem rDecode5_len (v u : Value) (b : List (BitVec 8)) (w : World) (hv : BytesV w v b) (h : b.length ≠ 64) :
    Calls Try.prog 17 #[v, u] w fun e w' => e = .returned (.tuple #[.agg #[.int .u8 0, .int .i64 0, .int .u64 0, .int .u64 0, .int .i64 0, .int .i64 0], .int .i64 2]) ∧ Below w.heap.size w w' := by
  obtain ⟨a, cp, rfl, _⟩ := hv
  have h' : ((b.length : Int) != 64) = true := by simp; omega
  clear h
  have hs0 := heap_alloc_new w (.cells #[.int .u8 0, .int .i64 0, .int .u64 0, .int .u64 0, .int .i64 0, .int .i64 0] 25)
  obtain ⟨W, hW⟩ : ∃ W, W = w.alloc (.cells #[.int .u8 0, .int .i64 0, .int .u64 0, .int .u64 0, .int .i64 0, .int .i64 0] 25) := ⟨_, rfl⟩
  have hb0 : Below w.heap.size w W := by subst hW; exact gr_alloc _ _
  rw [← hW] at hs0
  have HW := Lib.hid hW; have S0 := Lib.hid hs0; have B0 := Lib.hid hb0; clear hW hs0 hb0
  go_enter Try.func17, Try.ntmps17
  go_upto_region 1 with fail
  rw [← HW.out]
  go_wp2_with (refine wpList_store_row rfl 25 (.tmp 4) (.tmp 10) rfl w.heap.size #[.int .u8 0, .int .i64 0, .int .u64 0, .int .u64 0, .int .i64 0, .int .i64 0] rfl rfl 25 _ S0.out (by kernel_rfl) rfl (by simp [Value.oneCell']) ?_; rw [setRow_self S0.out])
  exact bodyPost_ret (results_row_tmp rfl _ _ w.heap.size 25 _ (0, 0) _ rfl S0.out Try.underlying25 rfl (by kernel_rfl)) rfl ⟨rfl, B0.out⟩
set_option maxRecDepth 8000 in
set_option maxHeartbeats 1600000 in
theorem rDecode5_in (v u : Value) (b d : List (BitVec 8)) (x y xs xq xp xi xn : BitVec 64) (k : BitVec 8) (s i n er : Int) (ne vb sb : Bool) (cs : Array Value) (w : World) (hv : BytesV w v b) (hu : BytesV w u d) (h : b.length = 64) (hs : d.length ≤ 1000000) (hy : Wire.get ((b.drop 60).take 4) = y) (hx : Sp.sumOf d b = x) (hne : (y != x) = ne)
    (hk : b[4]? = some k) (hxs : Wire.get ((b.drop 24).take 4) = xs) (hxq : Wire.get ((b.drop 8).take 8) = xq) (hxp : Wire.get ((b.drop 16).take 8) = xp) (hxi : Wire.get ((b.drop 28).take 4) = xi) (hxn : Wire.get ((b.drop 32).take 4) = xn) (hs4 : uv xs = s) (hi4 : uv xi = i) (hn4 : uv xn = n) (lts : uv xs < 4294967296) (lti : uv xi < 4294967296) (ltn : uv xn < 4294967296) (hvb : Sp.valid k s xq xp i n = vb) (hsb : (Sp.enc k s xq xp i n d == b) = sb)
    (her : (if ne then 10 else if vb && sb then 0 else 6) = er) (hcs : (if er = 0 then #[.int .u8 (uv k), .int .i64 s, .int .u64 (uv xq), .int .u64 (uv xp), .int .i64 i, .int .i64 n] else #[.int .u8 0, .int .i64 0, .int .u64 0, .int .u64 0, .int .i64 0, .int .i64 0]) = cs) :
    Calls Try.prog 17 #[v, u] w fun e w' => e = .returned (.tuple #[.agg cs, .int .i64 er]) ∧ Below w.heap.size w w' := by
  obtain ⟨u6, hu6, -, hrun⟩ := hv.cut (P := Try.prog) (T := 26) Try.underlying26 bsz 0 60 (by omega) (by omega)
  have hrun : ∀ w', (Instr.slice 26 v none (some (.int .i64 60)) none).run Try.prog w' = .ok u6 w' := hrun rfl
  rw [List.drop_zero] at hu6
  have h6 : (b.take 60).length ≤ 60 := by simp; omega
  obtain ⟨l6, hl6⟩ : ∃ l6, b.take 60 = l6 := ⟨_, rfl⟩
  have hsum : (Dig.crc32 (d ++ l6)).setWidth 64 = x := by rw [← hl6]; exact hx
  rw [hl6] at hu6 h6
  obtain ⟨cr, hcr⟩ : ∃ cr, Dig.crc32 (d ++ l6) = cr := ⟨_, rfl⟩
  rw [hcr] at hsum
  have hne' : (y != cr.setWidth 64) = ne := by rw [hsum]; exact hne
  obtain ⟨a6, n6, c6, hs6⟩ : ∃ a n c, u6 = .slice a n c := by obtain ⟨a, c, rfl, _⟩ := hu6; exact ⟨_, _, _, rfl⟩
  obtain ⟨au, nu, cu, hsu⟩ : ∃ a n c, u = .slice a n c := by obtain ⟨a, c, rfl, _⟩ := hu; exact ⟨_, _, _, rfl⟩
  have hs0 := heap_alloc_new w (.cells #[.int .u8 0, .int .i64 0, .int .u64 0, .int .u64 0, .int .i64 0, .int .i64 0] 25)
  obtain ⟨W, hW⟩ : ∃ W, W = w.alloc (.cells #[.int .u8 0, .int .i64 0, .int .u64 0, .int .u64 0, .int .i64 0, .int .i64 0] 25) := ⟨_, rfl⟩
  have hb0 : Below w.heap.size w W := by subst hW; exact gr_alloc _ _
  rw [← hW] at hs0
  have hV := hv.below hb0; have hU := hu.below hb0; have hS60 := hu6.below hb0
  obtain ⟨av, cv, hsv, -, -, -, hrow⟩ := id hv
  obtain ⟨g0, o0, hav, hcell4⟩ := hrow.at (i := 4) (v := .int .u8 (uv k)) (by rw [by8_get, hk]; rfl)
  subst hav
  have hlt4 : (4 : Int) < (b.length : Int) := by omega
  clear hrow
  have hlen : b.length = 64 := h
  have h' : ((b.length : Int) != 64) = false := by simp; omega
  subst hs6 hsu hsv
  have HW := Lib.hid hW; have S0 := Lib.hid hs0; have B0 := Lib.hid hb0; have V := Lib.hid hV; have U := Lib.hid hU; have S60 := Lib.hid hS60; have H := Lib.hid h; have HS := Lib.hid hs; have HY := Lib.hid hy; have HCR := Lib.hid hcr; have HNE := Lib.hid hne'; have H6 := Lib.hid h6
  have WS2 := Lib.hid (show IntKind.i64.wrap s = s from IntWalk.i64_in _ (by have := uv_nonneg xs; omega)); have WI2 := Lib.hid (show IntKind.i64.wrap i = i from IntWalk.i64_in _ (by have := uv_nonneg xi; omega)); have WN2 := Lib.hid (show IntKind.i64.wrap n = n from IntWalk.i64_in _ (by have := uv_nonneg xn; omega)); have WS := Lib.hid (show wrap64 s = s from IntWalk.wrap64_in _ (by have := uv_nonneg xs; have := uv_nonneg xi; have := uv_nonneg xn; omega)); have WI := Lib.hid (show wrap64 i = i from IntWalk.wrap64_in _ (by have := uv_nonneg xs; have := uv_nonneg xi; have := uv_nonneg xn; omega)); have WN := Lib.hid (show wrap64 n = n from IntWalk.wrap64_in _ (by have := uv_nonneg xs; have := uv_nonneg xi; have := uv_nonneg xn; omega))
  have HK := Lib.hid hk; have XS := Lib.hid hxs; have XQ := Lib.hid hxq; have XP := Lib.hid hxp; have XI := Lib.hid hxi; have XN := Lib.hid hxn; have XS4 := Lib.hid hs4; have XI4 := Lib.hid hi4; have XN4 := Lib.hid hn4; have LTS := Lib.hid lts; have LTI := Lib.hid lti; have LTN := Lib.hid ltn; have HVB := Lib.hid hvb; have HSB := Lib.hid hsb; have HER := Lib.hid her; have HCS := Lib.hid hcs
  clear hW hs0 hb0 hV hU hS60 h hs hy hcr hne' hne h6 hx hsum hl6 hv hu hu6 hlen hk hxs hxq hxp hxi hxn hs4 hi4 hn4 lts lti ltn hvb hsb her hcs
  go_enter Try.func17, Try.ntmps17
  go_upto_region 1 with fail
  rw [← HW.out]
  go_upto_region 3 with fail
  go_cut [21] (fun s wx => s = .bool ne ∧ Below W.heap.size W wx)
  case first =>
    refine wp_region_planT nowhere (.firm 0 (.firm 3 (.firm 5 (.firm 6 (.two 1 (.one 2 (.one 4 (.one 7 (.one 8 (.firm 9 (.firm 10 .done)))))) 2 (.one 1 (.one 4 (.one 7 (.one 8 (.firm 9 (.firm 10 .done)))))))))))
      (by kernel_rfl) (by kernel_rfl) (by intro c a d v w h; cases d <;> exact h) ?_
    intro W1 K1 C1
    have V1 := Lib.hid (V.out.below C1.out)
    have U1 := Lib.hid (U.out.below C1.out)
    have S1 := Lib.hid (S60.out.below C1.out)
    repeat (refine wpT_firm rfl (fun K hK => ?_); simp only [Keep]; go_simp; refine hK _ ?_; clear hK K)
    refine wpT_two rfl rfl ?_ ?_
    · go_wp2_with (go_at_call 36; refine (get5_at _ b 60 4 60 4 y _ V1.out rfl rfl (by have := H.out; omega) HY.out).mono ?_; rintro r w2 ⟨rfl, rfl⟩)
      refine ⟨K1.out, ?_⟩
      repeat (refine wpT_firm rfl (fun K hK => ?_); simp only [Keep]; go_simp; refine hK _ ?_; clear hK K)
      refine wpT_chain rfl ?_
      go_wp2_with fail
      refine ⟨K1.out.alloc _, ?_⟩
      refine wpT_chain rfl ?_
      refine app_fresh rfl (.tmp 13) (.tmp 14) rfl _ rfl rfl _ d rfl U1.out (by have := HS.out; omega) ?_
      intro v4 w4 hown hb
      have O4 := Lib.hid hown; clear hown
      have B4 := Lib.hid hb; clear hb
      go_wp2_with fail
      refine ⟨K1.out.below B4.out, ?_⟩
      refine wpT_chain rfl ?_
      refine app_more rfl (.tmp 15) (.tmp 17) rfl v4 W1.heap.size d.length d rfl O4.out B4.out.size _ l6 rfl (S1.out.below B4.out) (by have := HS.out; have := H6.out; omega) ?_
      intro v5 w5 hown _ hb
      have O5 := Lib.hid (BytesV.of_own (l := d ++ l6) (by rw [List.length_append]; exact hown)); clear hown
      have B5 := Lib.hid (hb.mono (B' := w.heap.size) (Nat.le_trans B0.out.size C1.out.size))
      have B5'' := Lib.hid (hb.mono (B' := W.heap.size) C1.out.size)
      have B5' := Lib.hid (gr_base B4.out hb); clear hb
      go_wp2_with fail
      refine ⟨(K1.out.below B4.out).base B5''.out, ?_⟩
      refine wpT_chain rfl ?_
      go_wp2_with (go_at_call 35; refine (rCRC32C_any _ _ _ O5.out).mono ?_; rintro r w6 ⟨rfl, rfl⟩; rw [HCR.out])
      refine ⟨(K1.out.below B4.out).base B5''.out, ?_⟩
      repeat (refine wpT_firm rfl (fun K hK => ?_); simp only [Keep]; go_simp; refine hK _ ?_; clear hK K)
      unfold wpT
      go_wp2_with fail
      go_meet
      exact ⟨by rw [HNE.out], gr_tr C1.out B5'.out⟩
    · go_wp2_with fail
      refine ⟨K1.out.alloc _, ?_⟩
      refine wpT_chain rfl ?_
      go_wp2_with (go_at_call 36; refine (get5_at _ b 60 4 60 4 y _ (V1.out.below (gr_alloc _ _)) rfl rfl (by have := H.out; omega) HY.out).mono ?_; rintro r w2 ⟨rfl, rfl⟩)
      refine ⟨K1.out.alloc _, ?_⟩
      refine wpT_chain rfl ?_
      refine app_fresh rfl (.tmp 13) (.tmp 14) rfl _ rfl rfl _ d rfl U1.out (by have := HS.out; omega) ?_
      intro v4 w4 hown hb
      have O4 := Lib.hid hown; clear hown
      have B4 := Lib.hid hb; clear hb
      go_wp2_with fail
      refine ⟨K1.out.below B4.out, ?_⟩
      refine wpT_chain rfl ?_
      refine app_more rfl (.tmp 15) (.tmp 17) rfl v4 W1.heap.size d.length d rfl O4.out B4.out.size _ l6 rfl (S1.out.below B4.out) (by have := HS.out; have := H6.out; omega) ?_
      intro v5 w5 hown _ hb
      have O5 := Lib.hid (BytesV.of_own (l := d ++ l6) (by rw [List.length_append]; exact hown)); clear hown
      have B5 := Lib.hid (hb.mono (B' := w.heap.size) (Nat.le_trans B0.out.size C1.out.size))
      have B5'' := Lib.hid (hb.mono (B' := W.heap.size) C1.out.size)
      have B5' := Lib.hid (gr_base B4.out hb); clear hb
      go_wp2_with fail
      refine ⟨(K1.out.below B4.out).base B5''.out, ?_⟩
      refine wpT_chain rfl ?_
      go_wp2_with (go_at_call 35; refine (rCRC32C_any _ _ _ O5.out).mono ?_; rintro r w6 ⟨rfl, rfl⟩; rw [HCR.out])
      refine ⟨(K1.out.below B4.out).base B5''.out, ?_⟩
      repeat (refine wpT_firm rfl (fun K hK => ?_); simp only [Keep]; go_simp; refine hK _ ?_; clear hK K)
      unfold wpT
      go_wp2_with fail
      go_meet
      exact ⟨by rw [HNE.out], gr_tr C1.out B5'.out⟩
  case rest =>
    obtain ⟨rfl, hb⟩ := hcut
    obtain ⟨w5, hw5⟩ : ∃ x, x = wc := ⟨_, rfl⟩
    subst hw5
    have S5 := Lib.hid (blk_below S0.out hb); have V5 := Lib.hid (V.out.below hb); have U5 := Lib.hid (U.out.below hb); have B5 := Lib.hid (gr_tr B0.out hb)
    have hc4 := below_get (gr_tr B0.out hb) hcell4
    clear hb hcell4
    cases ne
    · go_upto_region 5 with fail
      have q4 : ∀ y : KeepT nowhere w5, y.val.cell? ⟨g0, o0 + 4, none⟩ = some (.int .u8 (uv k)) := fun y => y.cell hc4 id
      clear hc4
      go_cut [6] (fun p wx => ∃ g, p = .pointer (some ⟨g, 0, none⟩) ∧ wx.heap[g]? = some (.cells #[.int .u8 (uv k), .int .i64 s, .int .u64 (uv xq), .int .u64 (uv xp), .int .i64 i, .int .i64 n] 25 (0, 0)) ∧ w5.heap.size ≤ g ∧ Below w5.heap.size w5 wx)
      case first =>
        refine wp_region_planT nowhere (.firm 0 (.firm 1 (.firm 2 (.firm 3 (.firm 6 (.firm 8 (.firm 10 (.firm 13 (.two 4 (.firm 5 (.two 7 (.two 9 (.two 11 (.firm 12 (.two 14 (.firm 15 (.firm 16 (.one 17 (.one 18 .done)))) 17 (.one 14 (.firm 15 (.firm 16 (.one 18 .done)))))) 17 (.one 11 (.firm 12 (.one 14 (.firm 15 (.firm 16 (.one 18 .done))))))) 17 (.one 9 (.one 11 (.firm 12 (.one 14 (.firm 15 (.firm 16 (.one 18 .done)))))))) 17 (.one 7 (.one 9 (.one 11 (.firm 12 (.one 14 (.firm 15 (.firm 16 (.one 18 .done)))))))))) 17 (.one 4 (.firm 5 (.one 7 (.one 9 (.one 11 (.firm 12 (.one 14 (.firm 15 (.firm 16 (.one 18 .done)))))))))))))))))))
          (by kernel_rfl) (by kernel_rfl) (by intro c a d v w h; cases d <;> exact h) ?_
        intro W1 K1 C1
        have V1 := Lib.hid (V5.out.below C1.out)
        have V2 := Lib.hid (V1.out.below (gr_alloc W1 (.cells #[.int .u8 0, .int .i64 0, .int .u64 0, .int .u64 0, .int .i64 0, .int .i64 0] 25)))
        repeat (refine wpT_firm rfl (fun K hK => ?_); simp only [Keep]; go_simp; refine hK _ ?_; clear hK K)
        repeat (refine wpT_firm rfl (fun K hK => ?_); simp only [Keep]; go_simp; refine hK _ ?_; clear hK K)
        refine wpT_two rfl rfl ?_ ?_
        · go_wp2_with (go_at_call 36; refine (get5_at _ b 24 4 24 4 xs _ V1.out rfl rfl (by have := H.out; omega) XS.out).mono ?_; rintro r w2 ⟨rfl, rfl⟩)
          refine ⟨K1.out, ?_⟩
          repeat (refine wpT_firm rfl (fun K hK => ?_); simp only [Keep]; go_simp; refine hK _ ?_; clear hK K)
          refine wpT_two rfl rfl ?_ ?_
          · go_wp2_with (go_at_call 36; refine (get5_at _ b 8 8 8 8 xq _ V1.out rfl rfl (by have := H.out; omega) XQ.out).mono ?_; rintro r w2 ⟨rfl, rfl⟩)
            refine ⟨K1.out, ?_⟩
            repeat (refine wpT_firm rfl (fun K hK => ?_); simp only [Keep]; go_simp; refine hK _ ?_; clear hK K)
            refine wpT_two rfl rfl ?_ ?_
            · go_wp2_with (go_at_call 36; refine (get5_at _ b 16 8 16 8 xp _ V1.out rfl rfl (by have := H.out; omega) XP.out).mono ?_; rintro r w2 ⟨rfl, rfl⟩)
              refine ⟨K1.out, ?_⟩
              repeat (refine wpT_firm rfl (fun K hK => ?_); simp only [Keep]; go_simp; refine hK _ ?_; clear hK K)
              refine wpT_two rfl rfl ?_ ?_
              · go_wp2_with (go_at_call 36; refine (get5_at _ b 28 4 28 4 xi _ V1.out rfl rfl (by have := H.out; omega) XI.out).mono ?_; rintro r w2 ⟨rfl, rfl⟩)
                refine ⟨K1.out, ?_⟩
                repeat (refine wpT_firm rfl (fun K hK => ?_); simp only [Keep]; go_simp; refine hK _ ?_; clear hK K)
                refine wpT_two rfl rfl ?_ ?_
                · go_wp2_with (go_at_call 36; refine (get5_at _ b 32 4 32 4 xn _ V1.out rfl rfl (by have := H.out; omega) XN.out).mono ?_; rintro r w2 ⟨rfl, rfl⟩)
                  refine ⟨K1.out, ?_⟩
                  repeat (refine wpT_firm rfl (fun K hK => ?_); simp only [Keep]; go_simp; refine hK _ ?_; clear hK K)
                  refine wpT_chain rfl ?_
                  go_wp2_with fail
                  refine ⟨K1.out.alloc _, ?_⟩
                  refine wpT_chain rfl ?_
                  rw [XS4.out, XI4.out, XN4.out]
                  simp only [WS.out, WI.out, WN.out, WS2.out, WI2.out, WN2.out]
                  refine wpList_store_new rfl 25 (.tmp 6) (.tmp 39) rfl #[.int .u8 (uv k), .int .i64 s, .int .u64 (uv xq), .int .u64 (uv xp), .int .i64 i, .int .i64 n] 25 #[.int .u8 0, .int .i64 0, .int .u64 0, .int .u64 0, .int .i64 0, .int .i64 0] rfl rfl (by kernel_rfl) rfl (by simp [Value.oneCell']) ?_
                  intro w5 hr hb
                  have R5 := Lib.hid hr; have K5 := Lib.hid (K1.out.below hb); have C5 := Lib.hid (gr_tr C1.out hb); clear hr hb
                  go_wp2_with fail
                  refine ⟨K5.out, ?_⟩
                  unfold wpT
                  go_wp2_with fail
                  go_meet
                  exact ⟨W1.heap.size, rfl, R5.out, Nat.le_trans C1.out.size (Nat.le_refl _), C5.out⟩
                · go_wp2_with fail
                  refine ⟨K1.out.alloc _, ?_⟩
                  repeat (refine wpT_firm rfl (fun K hK => ?_); simp only [Keep]; go_simp; refine hK _ ?_; clear hK K)
                  refine wpT_chain rfl ?_
                  go_wp2_with (go_at_call 36; refine (get5_at _ b 32 4 32 4 xn _ V2.out rfl rfl (by have := H.out; omega) XN.out).mono ?_; rintro r w2 ⟨rfl, rfl⟩)
                  refine ⟨K1.out.alloc _, ?_⟩
                  repeat (refine wpT_firm rfl (fun K hK => ?_); simp only [Keep]; go_simp; refine hK _ ?_; clear hK K)
                  refine wpT_chain rfl ?_
                  rw [XS4.out, XI4.out, XN4.out]
                  simp only [WS.out, WI.out, WN.out, WS2.out, WI2.out, WN2.out]
                  refine wpList_store_new rfl 25 (.tmp 6) (.tmp 39) rfl #[.int .u8 (uv k), .int .i64 s, .int .u64 (uv xq), .int .u64 (uv xp), .int .i64 i, .int .i64 n] 25 #[.int .u8 0, .int .i64 0, .int .u64 0, .int .u64 0, .int .i64 0, .int .i64 0] rfl rfl (by kernel_rfl) rfl (by simp [Value.oneCell']) ?_
                  intro w5 hr hb
                  have R5 := Lib.hid hr; have K5 := Lib.hid (K1.out.below hb); have C5 := Lib.hid (gr_tr C1.out hb); clear hr hb
                  go_wp2_with fail
                  refine ⟨K5.out, ?_⟩
                  unfold wpT
                  go_wp2_with fail
                  go_meet
                  exact ⟨W1.heap.size, rfl, R5.out, Nat.le_trans C1.out.size (Nat.le_refl _), C5.out⟩
              · go_wp2_with fail
                refine ⟨K1.out.alloc _, ?_⟩
                repeat (refine wpT_firm rfl (fun K hK => ?_); simp only [Keep]; go_simp; refine hK _ ?_; clear hK K)
                refine wpT_chain rfl ?_
                go_wp2_with (go_at_call 36; refine (get5_at _ b 28 4 28 4 xi _ V2.out rfl rfl (by have := H.out; omega) XI.out).mono ?_; rintro r w2 ⟨rfl, rfl⟩)
                refine ⟨K1.out.alloc _, ?_⟩
                repeat (refine wpT_firm rfl (fun K hK => ?_); simp only [Keep]; go_simp; refine hK _ ?_; clear hK K)
                refine wpT_chain rfl ?_
                go_wp2_with (go_at_call 36; refine (get5_at _ b 32 4 32 4 xn _ V2.out rfl rfl (by have := H.out; omega) XN.out).mono ?_; rintro r w2 ⟨rfl, rfl⟩)
                refine ⟨K1.out.alloc _, ?_⟩
                repeat (refine wpT_firm rfl (fun K hK => ?_); simp only [Keep]; go_simp; refine hK _ ?_; clear hK K)
                refine wpT_chain rfl ?_
                rw [XS4.out, XI4.out, XN4.out]
                simp only [WS.out, WI.out, WN.out, WS2.out, WI2.out, WN2.out]
                refine wpList_store_new rfl 25 (.tmp 6) (.tmp 39) rfl #[.int .u8 (uv k), .int .i64 s, .int .u64 (uv xq), .int .u64 (uv xp), .int .i64 i, .int .i64 n] 25 #[.int .u8 0, .int .i64 0, .int .u64 0, .int .u64 0, .int .i64 0, .int .i64 0] rfl rfl (by kernel_rfl) rfl (by simp [Value.oneCell']) ?_
                intro w5 hr hb
                have R5 := Lib.hid hr; have K5 := Lib.hid (K1.out.below hb); have C5 := Lib.hid (gr_tr C1.out hb); clear hr hb
                go_wp2_with fail
                refine ⟨K5.out, ?_⟩
                unfold wpT
                go_wp2_with fail
                go_meet
                exact ⟨W1.heap.size, rfl, R5.out, Nat.le_trans C1.out.size (Nat.le_refl _), C5.out⟩
            · go_wp2_with fail
              refine ⟨K1.out.alloc _, ?_⟩
              repeat (refine wpT_firm rfl (fun K hK => ?_); simp only [Keep]; go_simp; refine hK _ ?_; clear hK K)
              refine wpT_chain rfl ?_
              go_wp2_with (go_at_call 36; refine (get5_at _ b 16 8 16 8 xp _ V2.out rfl rfl (by have := H.out; omega) XP.out).mono ?_; rintro r w2 ⟨rfl, rfl⟩)
              refine ⟨K1.out.alloc _, ?_⟩
              repeat (refine wpT_firm rfl (fun K hK => ?_); simp only [Keep]; go_simp; refine hK _ ?_; clear hK K)
              refine wpT_chain rfl ?_
              go_wp2_with (go_at_call 36; refine (get5_at _ b 28 4 28 4 xi _ V2.out rfl rfl (by have := H.out; omega) XI.out).mono ?_; rintro r w2 ⟨rfl, rfl⟩)
              refine ⟨K1.out.alloc _, ?_⟩
              repeat (refine wpT_firm rfl (fun K hK => ?_); simp only [Keep]; go_simp; refine hK _ ?_; clear hK K)
              refine wpT_chain rfl ?_
              go_wp2_with (go_at_call 36; refine (get5_at _ b 32 4 32 4 xn _ V2.out rfl rfl (by have := H.out; omega) XN.out).mono ?_; rintro r w2 ⟨rfl, rfl⟩)
              refine ⟨K1.out.alloc _, ?_⟩
              repeat (refine wpT_firm rfl (fun K hK => ?_); simp only [Keep]; go_simp; refine hK _ ?_; clear hK K)
              refine wpT_chain rfl ?_
              rw [XS4.out, XI4.out, XN4.out]
              simp only [WS.out, WI.out, WN.out, WS2.out, WI2.out, WN2.out]
              refine wpList_store_new rfl 25 (.tmp 6) (.tmp 39) rfl #[.int .u8 (uv k), .int .i64 s, .int .u64 (uv xq), .int .u64 (uv xp), .int .i64 i, .int .i64 n] 25 #[.int .u8 0, .int .i64 0, .int .u64 0, .int .u64 0, .int .i64 0, .int .i64 0] rfl rfl (by kernel_rfl) rfl (by simp [Value.oneCell']) ?_
              intro w5 hr hb
              have R5 := Lib.hid hr; have K5 := Lib.hid (K1.out.below hb); have C5 := Lib.hid (gr_tr C1.out hb); clear hr hb
              go_wp2_with fail
              refine ⟨K5.out, ?_⟩
              unfold wpT
              go_wp2_with fail
              go_meet
              exact ⟨W1.heap.size, rfl, R5.out, Nat.le_trans C1.out.size (Nat.le_refl _), C5.out⟩
          · go_wp2_with fail
            refine ⟨K1.out.alloc _, ?_⟩
            repeat (refine wpT_firm rfl (fun K hK => ?_); simp only [Keep]; go_simp; refine hK _ ?_; clear hK K)
            refine wpT_chain rfl ?_
            go_wp2_with (go_at_call 36; refine (get5_at _ b 8 8 8 8 xq _ V2.out rfl rfl (by have := H.out; omega) XQ.out).mono ?_; rintro r w2 ⟨rfl, rfl⟩)
            refine ⟨K1.out.alloc _, ?_⟩
            repeat (refine wpT_firm rfl (fun K hK => ?_); simp only [Keep]; go_simp; refine hK _ ?_; clear hK K)
            refine wpT_chain rfl ?_
            go_wp2_with (go_at_call 36; refine (get5_at _ b 16 8 16 8 xp _ V2.out rfl rfl (by have := H.out; omega) XP.out).mono ?_; rintro r w2 ⟨rfl, rfl⟩)
            refine ⟨K1.out.alloc _, ?_⟩
            repeat (refine wpT_firm rfl (fun K hK => ?_); simp only [Keep]; go_simp; refine hK _ ?_; clear hK K)
            refine wpT_chain rfl ?_
            go_wp2_with (go_at_call 36; refine (get5_at _ b 28 4 28 4 xi _ V2.out rfl rfl (by have := H.out; omega) XI.out).mono ?_; rintro r w2 ⟨rfl, rfl⟩)
            refine ⟨K1.out.alloc _, ?_⟩
            repeat (refine wpT_firm rfl (fun K hK => ?_); simp only [Keep]; go_simp; refine hK _ ?_; clear hK K)
            refine wpT_chain rfl ?_
            go_wp2_with (go_at_call 36; refine (get5_at _ b 32 4 32 4 xn _ V2.out rfl rfl (by have := H.out; omega) XN.out).mono ?_; rintro r w2 ⟨rfl, rfl⟩)
            refine ⟨K1.out.alloc _, ?_⟩
            repeat (refine wpT_firm rfl (fun K hK => ?_); simp only [Keep]; go_simp; refine hK _ ?_; clear hK K)
            refine wpT_chain rfl ?_
            rw [XS4.out, XI4.out, XN4.out]
            simp only [WS.out, WI.out, WN.out, WS2.out, WI2.out, WN2.out]
            refine wpList_store_new rfl 25 (.tmp 6) (.tmp 39) rfl #[.int .u8 (uv k), .int .i64 s, .int .u64 (uv xq), .int .u64 (uv xp), .int .i64 i, .int .i64 n] 25 #[.int .u8 0, .int .i64 0, .int .u64 0, .int .u64 0, .int .i64 0, .int .i64 0] rfl rfl (by kernel_rfl) rfl (by simp [Value.oneCell']) ?_
            intro w5 hr hb
            have R5 := Lib.hid hr; have K5 := Lib.hid (K1.out.below hb); have C5 := Lib.hid (gr_tr C1.out hb); clear hr hb
            go_wp2_with fail
            refine ⟨K5.out, ?_⟩
            unfold wpT
            go_wp2_with fail
            go_meet
            exact ⟨W1.heap.size, rfl, R5.out, Nat.le_trans C1.out.size (Nat.le_refl _), C5.out⟩
        · go_wp2_with fail
          refine ⟨K1.out.alloc _, ?_⟩
          repeat (refine wpT_firm rfl (fun K hK => ?_); simp only [Keep]; go_simp; refine hK _ ?_; clear hK K)
          refine wpT_chain rfl ?_
          go_wp2_with (go_at_call 36; refine (get5_at _ b 24 4 24 4 xs _ V2.out rfl rfl (by have := H.out; omega) XS.out).mono ?_; rintro r w2 ⟨rfl, rfl⟩)
          refine ⟨K1.out.alloc _, ?_⟩
          repeat (refine wpT_firm rfl (fun K hK => ?_); simp only [Keep]; go_simp; refine hK _ ?_; clear hK K)
          refine wpT_chain rfl ?_
          go_wp2_with (go_at_call 36; refine (get5_at _ b 8 8 8 8 xq _ V2.out rfl rfl (by have := H.out; omega) XQ.out).mono ?_; rintro r w2 ⟨rfl, rfl⟩)
          refine ⟨K1.out.alloc _, ?_⟩
          repeat (refine wpT_firm rfl (fun K hK => ?_); simp only [Keep]; go_simp; refine hK _ ?_; clear hK K)
          refine wpT_chain rfl ?_
          go_wp2_with (go_at_call 36; refine (get5_at _ b 16 8 16 8 xp _ V2.out rfl rfl (by have := H.out; omega) XP.out).mono ?_; rintro r w2 ⟨rfl, rfl⟩)
          refine ⟨K1.out.alloc _, ?_⟩
          repeat (refine wpT_firm rfl (fun K hK => ?_); simp only [Keep]; go_simp; refine hK _ ?_; clear hK K)
          refine wpT_chain rfl ?_
          go_wp2_with (go_at_call 36; refine (get5_at _ b 28 4 28 4 xi _ V2.out rfl rfl (by have := H.out; omega) XI.out).mono ?_; rintro r w2 ⟨rfl, rfl⟩)
          refine ⟨K1.out.alloc _, ?_⟩
          repeat (refine wpT_firm rfl (fun K hK => ?_); simp only [Keep]; go_simp; refine hK _ ?_; clear hK K)
          refine wpT_chain rfl ?_
          go_wp2_with (go_at_call 36; refine (get5_at _ b 32 4 32 4 xn _ V2.out rfl rfl (by have := H.out; omega) XN.out).mono ?_; rintro r w2 ⟨rfl, rfl⟩)
          refine ⟨K1.out.alloc _, ?_⟩
          repeat (refine wpT_firm rfl (fun K hK => ?_); simp only [Keep]; go_simp; refine hK _ ?_; clear hK K)
          refine wpT_chain rfl ?_
          rw [XS4.out, XI4.out, XN4.out]
          simp only [WS.out, WI.out, WN.out, WS2.out, WI2.out, WN2.out]
          refine wpList_store_new rfl 25 (.tmp 6) (.tmp 39) rfl #[.int .u8 (uv k), .int .i64 s, .int .u64 (uv xq), .int .u64 (uv xp), .int .i64 i, .int .i64 n] 25 #[.int .u8 0, .int .i64 0, .int .u64 0, .int .u64 0, .int .i64 0, .int .i64 0] rfl rfl (by kernel_rfl) rfl (by simp [Value.oneCell']) ?_
          intro w5 hr hb
          have R5 := Lib.hid hr; have K5 := Lib.hid (K1.out.below hb); have C5 := Lib.hid (gr_tr C1.out hb); clear hr hb
          go_wp2_with fail
          refine ⟨K5.out, ?_⟩
          unfold wpT
          go_wp2_with fail
          go_meet
          exact ⟨W1.heap.size, rfl, R5.out, Nat.le_trans C1.out.size (Nat.le_refl _), C5.out⟩
      case rest =>
        obtain ⟨g, rfl, hr, hg, hb⟩ := hcut
        obtain ⟨w8, hw8⟩ : ∃ x, x = wc := ⟨_, rfl⟩
        subst hw8
        clear q4
        have S8 := Lib.hid (blk_below S5.out hb); have V8 := Lib.hid (V5.out.below hb); have U8 := Lib.hid (U5.out.below hb); have B8 := Lib.hid (gr_tr B5.out hb); have R8 := Lib.hid hr
        obtain ⟨r0, r1, r2, r3, r4, r5⟩ := row6 hr
        have q0 : ∀ y : KeepT nowhere w8, y.val.cell? ⟨g, 0, none⟩ = some (.int .u8 (uv k)) := fun y => y.cell r0 id
        have q1 : ∀ y : KeepT nowhere w8, y.val.cell? ⟨g, 1, none⟩ = some (.int .i64 s) := fun y => y.cell r1 id
        have q2 : ∀ y : KeepT nowhere w8, y.val.cell? ⟨g, 2, none⟩ = some (.int .u64 (uv xq)) := fun y => y.cell r2 id
        have q3 : ∀ y : KeepT nowhere w8, y.val.cell? ⟨g, 3, none⟩ = some (.int .u64 (uv xp)) := fun y => y.cell r3 id
        have q4 : ∀ y : KeepT nowhere w8, y.val.cell? ⟨g, 4, none⟩ = some (.int .i64 i) := fun y => y.cell r4 id
        have q5 : ∀ y : KeepT nowhere w8, y.val.cell? ⟨g, 5, none⟩ = some (.int .i64 n) := fun y => y.cell r5 id
        have qs : ∀ y : KeepT nowhere w8, (convert 26 9 (.slice (some ⟨g0, o0, none⟩) b.length cv)).run Try.prog y.val = .ok (.string (strOf b)) y.val := fun y => str_at (V8.out.keepT y)
        clear hb hr r0 r1 r2 r3 r4 r5 hg
        go_upto_region 6 with fail
        cases vb
        · go_cut [51] (fun p wx => p = .bool true ∧ Below w8.heap.size w8 wx)
          case first =>
            refine wp_region_planW nowhere [(true, 0), (false, 1), (true, 2), (true, 3), (true, 4), (true, 5), (true, 8), (true, 9), (false, 6), (false, 7), (true, 10), (true, 11)]
              (by kernel_rfl) (by kernel_rfl) (by intro c a d v w h; cases d <;> exact h) ?_
            intro W1 K1 C1
            have V9 := Lib.hid (V8.out.below C1.out); have U9 := Lib.hid (U8.out.below C1.out)
            repeat (refine wpS_firm rfl (fun K hK => ?_); simp only [Keep]; go_simp; refine hK _ ?_; clear hK K)
            refine wpS_chain rfl ?_
            go_wp2_with (go_at_call 14; refine (rValid5_any k s xq xp i n _ _ HVB.out).mono ?_; rintro r w10 ⟨rfl, hb⟩; have K2 := Lib.hid (K1.out.below hb); have C2 := Lib.hid (gr_tr C1.out hb); have U10 := Lib.hid (U9.out.below hb); clear hb)
            refine ⟨K2.out, ?_⟩
            repeat (refine wpS_firm rfl (fun K hK => ?_); simp only [Keep]; go_simp; refine hK _ ?_; clear hK K)
            refine wpS_chain rfl ?_
            go_wp2_with fail
            refine ⟨K2.out, ?_⟩
            refine wpS_chain rfl ?_
            go_wp2_with fail
            refine ⟨K2.out, ?_⟩
            repeat (refine wpS_firm rfl (fun K hK => ?_); simp only [Keep]; go_simp; refine hK _ ?_; clear hK K)
            unfold wpS
            go_wp2_with fail
            go_meet
            exact ⟨rfl, C2.out⟩
          case rest =>
            obtain ⟨rfl, hb⟩ := hcut
            obtain ⟨w9, hw9⟩ : ∃ x, x = wc := ⟨_, rfl⟩
            subst hw9
            have S9 := Lib.hid (blk_below S8.out hb); have B9 := Lib.hid (gr_tr B8.out hb)
            clear hb
            obtain rfl : er = 6 := HER.out.symm
            obtain rfl : #[.int .u8 0, .int .i64 0, .int .u64 0, .int .u64 0, .int .i64 0, .int .i64 0] = cs := HCS.out
            go_wp2_with (refine wpList_store_row rfl 25 (.tmp 4) (.tmp 52) rfl w.heap.size #[.int .u8 0, .int .i64 0, .int .u64 0, .int .u64 0, .int .i64 0, .int .i64 0] rfl rfl 25 _ S9.out (by kernel_rfl) rfl (by simp [Value.oneCell']) ?_; rw [setRow_self S9.out])
            exact bodyPost_ret (results_row_tmp rfl _ _ w.heap.size 25 _ (0, 0) _ rfl S9.out Try.underlying25 rfl (by kernel_rfl)) rfl ⟨rfl, B9.out⟩
        · go_cut [51] (fun p wx => p = .bool (!sb) ∧ Below w8.heap.size w8 wx)
          case first =>
            refine wp_region_planW nowhere [(true, 0), (false, 1), (true, 2), (true, 3), (true, 4), (true, 5), (true, 8), (true, 9), (false, 6), (false, 7), (true, 10), (true, 11)]
              (by kernel_rfl) (by kernel_rfl) (by intro c a d v w h; cases d <;> exact h) ?_
            intro W1 K1 C1
            have V9 := Lib.hid (V8.out.below C1.out); have U9 := Lib.hid (U8.out.below C1.out)
            repeat (refine wpS_firm rfl (fun K hK => ?_); simp only [Keep]; go_simp; refine hK _ ?_; clear hK K)
            refine wpS_chain rfl ?_
            go_wp2_with (go_at_call 14; refine (rValid5_any k s xq xp i n _ _ HVB.out).mono ?_; rintro r w10 ⟨rfl, hb⟩; have K2 := Lib.hid (K1.out.below hb); have C2 := Lib.hid (gr_tr C1.out hb); have U10 := Lib.hid (U9.out.below hb); clear hb)
            refine ⟨K2.out, ?_⟩
            repeat (refine wpS_firm rfl (fun K hK => ?_); simp only [Keep]; go_simp; refine hK _ ?_; clear hK K)
            refine wpS_chain rfl ?_
            go_wp2_with (go_at_call 24; refine (Raw_any k s xq xp i n _ d _ U10.out HS.out).mono ?_; rintro r w11 ⟨z, rfl, hown, hb⟩; have K3 := Lib.hid (K2.out.below hb); have C3 := Lib.hid (gr_tr C2.out hb); have sz := str_at (BytesV.of_own hown); clear hb hown)
            refine ⟨K3.out, ?_⟩
            refine wpS_chain rfl ?_
            go_wp2_with fail
            refine ⟨K3.out, ?_⟩
            have hcmp := strOf_beq (Sp.enc k s xq xp i n d) b
            rw [HSB.out] at hcmp
            repeat (refine wpS_firm rfl (fun K hK => ?_); simp only [Keep]; go_simp; refine hK _ ?_; clear hK K)
            unfold wpS
            go_wp2_with fail
            go_meet
            exact ⟨rfl, C3.out⟩
          case rest =>
            obtain ⟨hp, hb⟩ := hcut
            obtain ⟨w9, hw9⟩ : ∃ x, x = wc := ⟨_, rfl⟩
            subst hw9
            have S9 := Lib.hid (blk_below S8.out hb); have B9 := Lib.hid (gr_tr B8.out hb); have R9 := Lib.hid (blk_below R8.out hb)
            clear hb
            cases sb
            · replace hp : _ = Value.bool true := hp
              subst hp
              obtain rfl : er = 6 := HER.out.symm
              obtain rfl : #[.int .u8 0, .int .i64 0, .int .u64 0, .int .u64 0, .int .i64 0, .int .i64 0] = cs := HCS.out
              go_wp2_with (refine wpList_store_row rfl 25 (.tmp 4) (.tmp 52) rfl w.heap.size #[.int .u8 0, .int .i64 0, .int .u64 0, .int .u64 0, .int .i64 0, .int .i64 0] rfl rfl 25 _ S9.out (by kernel_rfl) rfl (by simp [Value.oneCell']) ?_; rw [setRow_self S9.out])
              exact bodyPost_ret (results_row_tmp rfl _ _ w.heap.size 25 _ (0, 0) _ rfl S9.out Try.underlying25 rfl (by kernel_rfl)) rfl ⟨rfl, B9.out⟩
            · replace hp : _ = Value.bool false := hp
              subst hp
              obtain rfl : er = 0 := HER.out.symm
              obtain rfl : #[.int .u8 (uv k), .int .i64 s, .int .u64 (uv xq), .int .u64 (uv xp), .int .i64 i, .int .i64 n] = cs := HCS.out
              go_wp2_with (first
                | (refine wpList_load_row rfl 25 (.tmp 6) rfl g rfl 25 _ (0, 0) _ R9.out Try.underlying25 rfl (by kernel_rfl) ?_)
                | (refine wpList_store_row rfl 25 (.tmp 4) (.tmp 53) rfl w.heap.size _ rfl rfl 25 _ S9.out (by kernel_rfl) rfl (by simp [Value.oneCell']) ?_))
              exact bodyPost_ret (results_row_tmp rfl _ _ w.heap.size 25 _ (0, 0) _ rfl (setRow_heap _ _ _ _ _ _ S9.out) Try.underlying25 rfl (by kernel_rfl)) rfl ⟨rfl, below_setRow B9.out (Nat.le_refl _) _⟩
    · obtain rfl : er = 10 := HER.out.symm
      obtain rfl : #[.int .u8 0, .int .i64 0, .int .u64 0, .int .u64 0, .int .i64 0, .int .i64 0] = cs := HCS.out
      go_wp2_with (refine wpList_store_row rfl 25 (.tmp 4) (.tmp 22) rfl w.heap.size #[.int .u8 0, .int .i64 0, .int .u64 0, .int .u64 0, .int .i64 0, .int .i64 0] rfl rfl 25 _ S5.out (by kernel_rfl) rfl (by simp [Value.oneCell']) ?_; rw [setRow_self S5.out])
      exact bodyPost_ret (results_row_tmp rfl _ _ w.heap.size 25 _ (0, 0) _ rfl S5.out Try.underlying25 rfl (by kernel_rfl)) rfl ⟨rfl, B5.out⟩
end Go.Proofs.Yteicmbapipnbjaa
