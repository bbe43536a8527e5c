/- The walk of capsulelaw17.ProtectHolds. -/
import Derived.Test.YtmccihngbdopdaaLaw17E
import Derived.Test.YtmccihngbdopdaaProtMath
namespace Go.Proofs.Ytmccihngbdopdaa
open Go.RowKit
set_option linter.unusedVariables false
set_option linter.unusedSimpArgs false

theorem wr_zero {ty : Int} {fs rq : Bool} {n : Nat} (hv : Prot.valid ty fs = true) (h0 : (ty == 0) = false) (hn : 8 ≤ n) : Prot.wr ty fs rq n = 0 := by
  unfold Prot.wr Prot.err2
  rw [hv, h0]
  have : ¬ ((n : Int) < 8) := by omega
  simp [this]
theorem ti_zero {ty : Int} {fs : Bool} (hv : Prot.valid ty fs = true) (h0 : (ty == 0) = false) : Prot.ti ty fs = 0 := by
  unfold Prot.ti Prot.err1; rw [hv, h0]; rfl
set_option maxRecDepth 4000 in
set_option maxHeartbeats 6400000 in
theorem lawHolds (ty : Int) (fs : Bool) (v : Value) (lv : List (BitVec 8)) (m : Value) (lm : List (BitVec 8)) (g a : BitVec 16) (r : BitVec 32) (mask : BitVec 16) (w : World) (_ : -9223372036854775808 ≤ ty ∧ ty ≤ 9223372036854775807) (hv : BytesV w v lv) (hm : BytesV w m lm) :
    Calls Try.prog 8 #[.agg #[.int .i64 ty, .bool fs], v, m, .agg #[.int .u16 (uv g), .int .u16 (uv a), .int .u32 (uv r)], .int .u16 (uv mask)] w fun e w' => e = .returned (.bool true) ∧ Below w.heap.size w w' := by
  obtain ⟨b1, h1⟩ : ∃ z, Prot.valid ty fs = z := ⟨_, rfl⟩
  obtain ⟨b2, h2⟩ : ∃ z, (ty == 0) = z := ⟨_, rfl⟩
  obtain ⟨b3, h3⟩ : ∃ z, decide ((lv.length : Int) > 5000) = z := ⟨_, rfl⟩
  obtain ⟨b4, h4⟩ : ∃ z, decide ((lm.length : Int) > 64) = z := ⟨_, rfl⟩
  obtain ⟨bad, hbad⟩ : ∃ z, (!b1 || b2 || b3 || b4) = z := ⟨_, rfl⟩
  have H1 := Lib.hid h1; clear h1
  have H2 := Lib.hid h2; clear h2
  have H3 := Lib.hid h3; clear h3
  have H4 := Lib.hid h4; clear h4
  have HBAD := Lib.hid hbad; clear hbad
  have V := Lib.hid hv; clear hv
  have M := Lib.hid hm; clear hm
  obtain ⟨av, cv, rfl, -⟩ := id V.out
  obtain ⟨am, cm, rfl, -⟩ := id M.out
  obtain ⟨W, hW⟩ : ∃ W, W = (w.alloc (.cells #[.int .i64 ty, .bool fs] 28)).alloc (.cells #[.int .u16 (uv g), .int .u16 (uv a), .int .u32 (uv r)] 25) := ⟨_, rfl⟩
  have hb1 : Below w.heap.size w W := by subst hW; exact gr_tr (gr_alloc _ _) (gr_alloc _ _)
  have d0 : W.cell? ⟨w.heap.size, 0, none⟩ = some (.int .i64 ty) := by subst hW; simp [go_sem]
  have d1 : W.cell? ⟨w.heap.size, 1, none⟩ = some (.bool fs) := by subst hW; simp [go_sem]
  have d2 : W.cell? ⟨w.heap.size + 1, 0, none⟩ = some (.int .u16 (uv g)) := by subst hW; simp [go_sem]
  have d3 : W.cell? ⟨w.heap.size + 1, 1, none⟩ = some (.int .u16 (uv a)) := by subst hW; simp [go_sem]
  have d4 : W.cell? ⟨w.heap.size + 1, 2, none⟩ = some (.int .u32 (uv r)) := by subst hW; simp [go_sem]
  replace V := Lib.hid (V.out.below hb1); replace M := Lib.hid (M.out.below hb1)
  have B := Lib.hid hb1; clear hb1
  have HW := Lib.hid hW; clear hW
  go_enter Try.func8, Try.ntmps8
  go_upto_region 1 with fail
  rw [← HW.out]
  go_cut [40] (fun s wx => s = .bool bad ∧ Below W.heap.size W wx)
  case first =>
    have h1 := H1.out; have h2 := H2.out; have h3 := H3.out; have h4 := H4.out
    have hbad := HBAD.out
    cases b1 <;> cases b2 <;> cases b3 <;> cases b4 <;> (cases bad <;> first | exact absurd hbad (by decide) | skip) <;> clear hbad
    all_goals
      go_wp2_with (go_at_call 17; refine (rValid_at _ _ _ _ H1.out).mono ?_; rintro e w1 ⟨rfl, hw⟩; replace d0 := below_get hw d0; have C1 := Lib.hid hw; clear hw)
      go_meet
      exact ⟨rfl, C1.out⟩
  case rest =>
    obtain ⟨rfl, hw⟩ := hcut
    obtain ⟨w1, hx⟩ : ∃ x, x = wc := ⟨_, rfl⟩
    subst hx
    cases bad
    · have hall : b1 = true ∧ b2 = false ∧ b3 = false ∧ b4 = false := by have := HBAD.out; revert this; cases b1 <;> cases b2 <;> cases b3 <;> cases b4 <;> decide
      obtain ⟨rfl, rfl, rfl, rfl⟩ := hall
      have hq := H2.out
      have h0 : ty ≠ 0 := by intro e; subst e; simp at hq
      have l1 : lv.length ≤ 5000 := by have := H3.out; simp at this; omega
      have l2 : lm.length ≤ 64 := by have := H4.out; simp at this; omega
      obtain ⟨k, hk⟩ : ∃ z, Prot.bytes g a r = z := ⟨_, rfl⟩
      have hk8 : k.length = 8 := by rw [← hk]; exact Prot.bytes_len g a r
      have eg : Prot.tg k = g := by rw [← hk]; exact Prot.tg_bytes g a r
      have ea : Prot.ta k = a := by rw [← hk]; exact Prot.ta_bytes g a r
      have er : Prot.tr k = r := by rw [← hk]; exact Prot.tr_bytes g a r
      obtain ⟨lM, hlM⟩ : ∃ z, Prot.ins fs lm k = z := ⟨_, rfl⟩
      have hlen : lM.length = lm.length + 8 := by rw [← hlM]; exact Prot.ins_len hk8
      have hw1 : ∀ rq, Prot.wr ty fs rq lM.length = 0 := fun rq => wr_zero H1.out H2.out (by omega)
      have hti : Prot.ti ty fs = 0 := ti_zero H1.out H2.out
      have hin : Prot.insert ty fs lm (Prot.bytes g a r) = lM := by rw [Prot.insert_ins hti, hk, hlM]
      have hst : Prot.strip ty fs lM = lm := by rw [← hlM]; exact Prot.strip_ins (by rw [hlM]; exact hw1 true) hk8
      have hcut : Prot.cut fs lM = k := by rw [← hlM]; exact Prot.cut_ins hk8
      have rg : Prot.rg ty fs lM = g := by unfold Prot.rg; rw [if_pos (hw1 true), hcut, eg]
      have ra : Prot.ra ty fs lM = a := by unfold Prot.ra; rw [if_pos (hw1 true), hcut, ea]
      have rr : Prot.rr ty fs lM = r := by unfold Prot.rr; rw [if_pos (hw1 true), hcut, er]
      obtain ⟨gd, hgd⟩ : ∃ z, Prot.guard ty fs lv lM = z := ⟨_, rfl⟩
      have hb8 := Prot.bytes_len gd a r
      obtain ⟨lN, hlN⟩ : ∃ z, Prot.ins fs lm (Prot.bytes gd a r) = z := ⟨_, rfl⟩
      have hlenN : lN.length = lm.length + 8 := by rw [← hlN]; exact Prot.ins_len hb8
      have hgen : Prot.gen ty fs lv lM a r = lN := by
        have := Prot.gen_ins (fs := fs) (l := lm) (b := k) (by rw [hlM]; exact hw1 false) h0 hk8 lv a r
        rw [hlM, hgd, hlN] at this; exact this
      have hwN : ∀ rq, Prot.wr ty fs rq lN.length = 0 := fun rq => wr_zero H1.out H2.out (by omega)
      have hchk : Prot.chk ty fs lv lN true true true a mask r = 0 := by
        have := Prot.chk_gen (fs := fs) (l := lm) (b := k) (by rw [hlM]; exact hw1 false) h0 hk8 lv a r true true true mask
        rw [hlM, hgd, hlN] at this; exact this
      have hstN : Prot.strip ty fs lN = lm := by rw [← hlN]; exact Prot.strip_ins (by rw [hlN]; exact hwN true) hb8
      have hne : ((lM.length : Int) != (lm.length : Int) + 8) = false := by rw [hlen]; simp
      have hwr : IntKind.i64.wrap ((lm.length : Int) + 8) = (lm.length : Int) + 8 := IntWalk.i64_in _ (by omega)
      have s1 : lm.length + 8 ≤ 140737488355328 := by omega
      have s2 : lM.length ≤ 140737488355328 := by omega
      have s3 : lv.length + lM.length ≤ 140737488355000 := by omega
      have s4 : lN.length ≤ 140737488355328 := by omega
      have s5 : lv.length + lN.length ≤ 140737488355000 := by omega
      have hww1 := hw1 true; have hww2 := hw1 false; have hwn1 := hwN true; have hwn2 := hwN false
      have HQ := Lib.hid (tup_neq g a g a r r)
      clear hq h0 l1 l2 hlM hlen hw1 hcut hgd hb8 hlN hlenN hwN
      have HK := Lib.hid hk; clear hk
      have HK8 := Lib.hid hk8; clear hk8
      have EG := Lib.hid eg; clear eg
      have EA := Lib.hid ea; clear ea
      have ER := Lib.hid er; clear er
      have HTI := Lib.hid hti; clear hti
      have HIN := Lib.hid hin; clear hin
      have HST := Lib.hid hst; clear hst
      have RG := Lib.hid rg; clear rg
      have RA := Lib.hid ra; clear ra
      have RR := Lib.hid rr; clear rr
      have HGEN := Lib.hid hgen; clear hgen
      have HCHK := Lib.hid hchk; clear hchk
      have HSTN := Lib.hid hstN; clear hstN
      have HNE := Lib.hid hne; clear hne
      have HWR := Lib.hid hwr; clear hwr
      have S1 := Lib.hid s1; clear s1
      have S2 := Lib.hid s2; clear s2
      have S3 := Lib.hid s3; clear s3
      have S4 := Lib.hid s4; clear s4
      have S5 := Lib.hid s5; clear s5
      have HWW1 := Lib.hid hww1; clear hww1
      have HWW2 := Lib.hid hww2; clear hww2
      have HWN1 := Lib.hid hwn1; clear hwn1
      have HWN2 := Lib.hid hwn2; clear hwn2
      replace d0 := below_get hw d0; replace d1 := below_get hw d1; replace d2 := below_get hw d2; replace d3 := below_get hw d3; replace d4 := below_get hw d4; replace V := Lib.hid (V.out.below hw); replace M := Lib.hid (M.out.below hw); replace B := Lib.hid (gr_tr B.out hw); clear hw
      go_upto_region 6 with (first
        | (go_at_call 32; (with_reducible refine (Insert_at _ _ _ _ _ _ _ _ lM _ M.out S1.out HTI.out HIN.out).mono ?_); rintro e w2 ⟨u, rfl, hu, hw⟩; replace d0 := below_get hw d0; replace d1 := below_get hw d1; replace d2 := below_get hw d2; replace d3 := below_get hw d3; replace d4 := below_get hw d4; replace V := Lib.hid (V.out.below hw); replace M := Lib.hid (M.out.below hw); replace B := Lib.hid (gr_tr B.out hw); have U := Lib.hid hu; obtain ⟨au, cu, rfl, -⟩ := id U.out; clear hu; clear hw)
        | (go_at_call 30; (with_reducible refine (Strip_at _ _ _ _ _ lm _ U.out S2.out HWW1.out HST.out).mono ?_); rintro e w3 ⟨bk, rfl, hu, hw⟩; replace d0 := below_get hw d0; replace d1 := below_get hw d1; replace d2 := below_get hw d2; replace d3 := below_get hw d3; replace d4 := below_get hw d4; replace V := Lib.hid (V.out.below hw); replace M := Lib.hid (M.out.below hw); replace U := Lib.hid (U.out.below hw); replace B := Lib.hid (gr_tr B.out hw); have K := Lib.hid hu; clear hu; clear hw)
        | (go_at_call 27; (with_reducible refine (Read_at' _ _ _ _ g a r _ _ U.out HWW1.out RG.out RA.out RR.out).mono ?_); rintro e w4 ⟨rfl, hw⟩; replace d0 := below_get hw d0; replace d1 := below_get hw d1; replace d2 := below_get hw d2; replace d3 := below_get hw d3; replace d4 := below_get hw d4; replace V := Lib.hid (V.out.below hw); replace M := Lib.hid (M.out.below hw); replace U := Lib.hid (U.out.below hw); replace K := Lib.hid (K.out.below hw); replace B := Lib.hid (gr_tr B.out hw); clear hw)
        | (refine wpList_store_new rfl 25 (.tmp 15) _ rfl #[.int .u16 (uv g), .int .u16 (uv a), .int .u32 (uv r)] 25 #[.int .u16 0, .int .u16 0, .int .u32 0] rfl rfl (by kernel_rfl) rfl (by simp [Value.oneCell']) ?_; intro w5 hr hw; have T := Lib.hid hr; replace d0 := below_get hw d0; replace d1 := below_get hw d1; replace d2 := below_get hw d2; replace d3 := below_get hw d3; replace d4 := below_get hw d4; replace V := Lib.hid (V.out.below hw); replace M := Lib.hid (M.out.below hw); replace U := Lib.hid (U.out.below hw); replace K := Lib.hid (K.out.below hw); replace B := Lib.hid (gr_tr B.out hw); clear hr hw))
      go_cut [96] (fun s wx => s = .bool false ∧ Below w5.heap.size w5 wx)
      case first =>
        have hne := HNE.out; have hwr := HWR.out; have hq := HQ.out
        have t0 : w5.cell? ⟨w4.heap.size, 0, none⟩ = some (.int .u16 (uv g)) := (cell_of_row _ _ 0 _ _ _ T.out).trans rfl
        have t1 : w5.cell? ⟨w4.heap.size, 1, none⟩ = some (.int .u16 (uv a)) := (cell_of_row _ _ 1 _ _ _ T.out).trans rfl
        have t2 : w5.cell? ⟨w4.heap.size, 2, none⟩ = some (.int .u32 (uv r)) := (cell_of_row _ _ 2 _ _ _ T.out).trans rfl
        have c0 : ∀ y : KeepT nowhere w5, y.val.cell? ⟨w4.heap.size, 0, none⟩ = some (.int .u16 (uv g)) := fun y => y.cell t0 id
        have c1 : ∀ y : KeepT nowhere w5, y.val.cell? ⟨w4.heap.size, 1, none⟩ = some (.int .u16 (uv a)) := fun y => y.cell t1 id
        have c2 : ∀ y : KeepT nowhere w5, y.val.cell? ⟨w4.heap.size, 2, none⟩ = some (.int .u32 (uv r)) := fun y => y.cell t2 id
        have c3 : ∀ y : KeepT nowhere w5, y.val.cell? ⟨w.heap.size + 1, 0, none⟩ = some (.int .u16 (uv g)) := fun y => y.cell d2 id
        have c4 : ∀ y : KeepT nowhere w5, y.val.cell? ⟨w.heap.size + 1, 1, none⟩ = some (.int .u16 (uv a)) := fun y => y.cell d3 id
        have c5 : ∀ y : KeepT nowhere w5, y.val.cell? ⟨w.heap.size + 1, 2, none⟩ = some (.int .u32 (uv r)) := fun y => y.cell d4 id
        have k1 : ∀ y : KeepT nowhere w5, (convert 35 9 bk).run Try.prog y.val = .ok (.string (strOf lm)) y.val := fun y => str_at (K.out.keepT y)
        have k2 : ∀ y : KeepT nowhere w5, (convert 35 9 (.slice am lm.length cm)).run Try.prog y.val = .ok (.string (strOf lm)) y.val := fun y => str_at (M.out.keepT y)
        clear t0 t1 t2 d0 d1 d2 d3 d4
        refine wp_region_planW nowhere [(true, 0), (true, 2), (true, 5), (false, 1), (false, 3), (true, 4), (false, 6), (true, 7), (true, 8), (true, 9), (true, 10), (true, 11), (true, 12), (true, 13), (true, 14), (true, 15), (true, 16), (true, 17), (true, 18), (true, 19), (true, 20), (true, 21), (true, 22), (true, 25), (false, 23), (false, 24), (true, 26), (true, 27), (true, 28), (true, 29), (true, 30), (true, 31), (true, 32), (true, 33), (true, 34), (true, 35)]
          (by kernel_rfl) (by kernel_rfl) (by intro c a d v w h; cases d <;> exact h) ?_
        intro W1 KW1 CW1
        repeat (refine wpS_firm rfl (fun K hK => ?_); simp only [Keep]; go_simp; refine hK _ ?_; clear hK K)
        refine wpS_chain rfl ?_
        go_wp2_with (go_at_call 18; refine (num_any _ _).mono ?_; rintro e w' ⟨rfl, rfl⟩)
        refine ⟨KW1.out, ?_⟩
        refine wpS_chain rfl ?_
        go_wp2_with (go_at_call 18; refine (num_any _ _).mono ?_; rintro e w' ⟨rfl, rfl⟩)
        refine ⟨KW1.out, ?_⟩
        repeat (refine wpS_firm rfl (fun K hK => ?_); simp only [Keep]; go_simp; refine hK _ ?_; clear hK K)
        refine wpS_chain rfl ?_
        go_wp2_with (go_at_call 18; refine (num_any _ _).mono ?_; rintro e w' ⟨rfl, rfl⟩)
        refine ⟨KW1.out, ?_⟩
        repeat (refine wpS_firm rfl (fun K hK => ?_); simp only [Keep]; go_simp; refine hK _ ?_; clear hK K)
        refine wpS_chain rfl ?_
        go_wp2_with (go_at_call 10; refine (Encode_at g a r k _ HK.out).mono ?_; rintro e w6 ⟨rfl, hw⟩; have Kw6 := Lib.hid (KW1.out.below hw); have Cw6 := Lib.hid (gr_tr CW1.out hw); clear hw)
        refine ⟨Kw6.out, ?_⟩
        refine wpS_chain rfl ?_
        go_wp2_with (go_at_call 14; refine (Decode_at k g a r _ HK8.out EG.out EA.out ER.out).mono ?_; rintro e w7 ⟨rfl, hw⟩; have Kw7 := Lib.hid (Kw6.out.below hw); have Cw7 := Lib.hid (gr_tr Cw6.out hw); clear hw)
        refine ⟨Kw7.out, ?_⟩
        repeat (refine wpS_firm rfl (fun K hK => ?_); simp only [Keep]; go_simp; refine hK _ ?_; clear hK K)
        unfold wpS
        go_wp2_with fail
        go_meet
        exact ⟨rfl, Cw7.out⟩
      case rest =>
        obtain ⟨rfl, hw⟩ := hcut
        obtain ⟨w8, hx⟩ : ∃ x, x = wc := ⟨_, rfl⟩
        subst hx
        replace d0 := below_get hw d0; replace d1 := below_get hw d1; replace d2 := below_get hw d2; replace d3 := below_get hw d3; replace d4 := below_get hw d4; replace V := Lib.hid (V.out.below hw); replace M := Lib.hid (M.out.below hw); replace U := Lib.hid (U.out.below hw); replace B := Lib.hid (gr_tr B.out hw); clear hw
        go_upto_region 11 with (first
          | (go_at_call 20; (with_reducible refine (Generate_at _ _ _ _ _ _ _ _ _ lN _ V.out U.out S3.out HWW2.out HGEN.out).mono ?_); rintro e w9 ⟨nn, rfl, hu, hw⟩; replace d0 := below_get hw d0; replace d1 := below_get hw d1; replace d2 := below_get hw d2; replace d3 := below_get hw d3; replace d4 := below_get hw d4; replace V := Lib.hid (V.out.below hw); replace M := Lib.hid (M.out.below hw); replace B := Lib.hid (gr_tr B.out hw); have N := Lib.hid hu; clear hu; clear hw)
          | (go_at_call 25; (with_reducible refine (Check_at _ _ _ _ _ _ true true true a mask r _ 0 _ V.out N.out S5.out HWN2.out HCHK.out).mono ?_); rintro e w10 ⟨rfl, hw⟩; replace d0 := below_get hw d0; replace d1 := below_get hw d1; replace d2 := below_get hw d2; replace d3 := below_get hw d3; replace d4 := below_get hw d4; replace V := Lib.hid (V.out.below hw); replace M := Lib.hid (M.out.below hw); replace N := Lib.hid (N.out.below hw); replace B := Lib.hid (gr_tr B.out hw); clear hw)
          | (refine wpList_store_new rfl 55 (.tmp 19) _ rfl (Prot.st 0) 55 #[.int .u8 0, .int .u8 0, .bool false, .bool false] rfl rfl (st_info 0) (st_size 0).symm (st_one 0) ?_; intro w11 hr hw; have R := Lib.hid hr; replace d0 := below_get hw d0; replace d1 := below_get hw d1; replace d2 := below_get hw d2; replace d3 := below_get hw d3; replace d4 := below_get hw d4; replace V := Lib.hid (V.out.below hw); replace M := Lib.hid (M.out.below hw); replace N := Lib.hid (N.out.below hw); replace B := Lib.hid (gr_tr B.out hw); clear hr hw)
          | (go_at_call 30; (with_reducible refine (Strip_at _ _ _ _ _ lm _ N.out S4.out HWN1.out HSTN.out).mono ?_); rintro e w12 ⟨rest, rfl, hu, hw⟩; replace d0 := below_get hw d0; replace d1 := below_get hw d1; replace d2 := below_get hw d2; replace d3 := below_get hw d3; replace d4 := below_get hw d4; replace R := Lib.hid (blk_below R.out hw); replace M := Lib.hid (M.out.below hw); replace B := Lib.hid (gr_tr B.out hw); have X := Lib.hid hu; clear hu; clear hw))
        go_wp2_with (first
          | (refine wpList_unguard (by rfl) (wpList_load_row rfl 55 (.tmp 19) rfl w10.heap.size rfl 55 (Prot.st 0) (0, 0) _ R.out Try.underlying55 rfl (st_info 0) ?_))
          | (go_at_call 29; refine (code_any 0 (.inl rfl) _).mono ?_; rintro e w13 ⟨rfl, hw⟩; replace M := Lib.hid (M.out.below hw); replace X := Lib.hid (X.out.below hw); replace B := Lib.hid (gr_tr B.out hw); have sx := str_at X.out; have sm := str_at M.out; clear hw)
          | (go_at_call 18; refine (num_any _ _).mono ?_; rintro e w' ⟨rfl, rfl⟩)
          | (go_at_call 19; refine (works_any _).mono ?_; rintro e w14 ⟨rfl, hw⟩; replace B := Lib.hid (gr_tr B.out hw); clear hw))
        go_ret
        exact ⟨rfl, B.out⟩
    · replace B := Lib.hid (gr_tr B.out hw); clear hw
      go_wp2_with (go_at_call 19; refine (works_any _).mono ?_; rintro e w14 ⟨rfl, hw⟩; replace B := Lib.hid (gr_tr B.out hw); clear hw)
      go_ret
      exact ⟨rfl, B.out⟩
end Go.Proofs.Ytmccihngbdopdaa
