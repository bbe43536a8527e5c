/- The walks of capsuleref17: Check. -/
import Derived.Test.YtmccihngbdopdaaRef17G
import Derived.Test.YtmccihngbdopdaaProtJ
import Derived.Deep.DeepCutAuto
namespace Go.Proofs.Ytmccihngbdopdaa
open Go.RowKit
set_option linter.unusedVariables false
set_option linter.unusedSimpArgs false
theorem rRead_at (ty : Int) (fs : Bool) (m : Value) (lm : List (BitVec 8)) (g a : BitVec 16) (r : BitVec 32) (w : World) (hm : BytesV w m lm) (hn : Prot.wr ty fs true lm.length = 0) (hg : Prot.tg (Prot.cut fs lm) = g) (ha : Prot.ta (Prot.cut fs lm) = a) (hr : Prot.tr (Prot.cut fs lm) = r) :
    Calls Try.prog 28 #[.agg #[.int .i64 ty, .bool fs], m] w fun e w' => e = .returned (.tuple #[.agg #[.int .u16 (uv g), .int .u16 (uv a), .int .u32 (uv r)], .int .i64 0]) ∧ Below w.heap.size w w' := by
  have h := rRead_any ty fs m lm w hm
  unfold Prot.rg Prot.ra Prot.rr at h
  rw [hn, if_pos rfl, if_pos rfl, if_pos rfl, hg, ha, hr] at h
  exact h
theorem mask_ne (a t m : BitVec 16) : (a &&& m != t &&& m) = ((a ^^^ t) &&& m != 0#16) := by
  have h : (a ^^^ t) &&& m = (a &&& m) ^^^ (t &&& m) := by
    apply BitVec.eq_of_getLsbD_eq; intro i _; simp only [BitVec.getLsbD_and, BitVec.getLsbD_xor]
    cases a.getLsbD i <;> cases t.getLsbD i <;> cases m.getLsbD i <;> rfl
  rw [h]
  by_cases e : a &&& m = t &&& m
  · rw [e]; simp
  · have : ¬ (a &&& m) ^^^ (t &&& m) = 0#16 := fun k => e (by
      have := congrArg (· ^^^ (t &&& m)) k
      simpa [BitVec.xor_assoc] using this)
    rw [bne_iff_ne.2 e, bne_iff_ne.2 this]
set_option maxRecDepth 4000 in
set_option maxHeartbeats 1600000 in
theorem rCheck_tail (ty : Int) (fs : Bool) (v mm : Value) (lv lm : List (BitVec 8)) (cg ca cr : Bool) (t m : BitVec 16) (y : BitVec 32) (g a : BitVec 16) (r : BitVec 32) (x : BitVec 16) (w : World) (hv : BytesV w v lv) (hm : BytesV w mm lm) (hs : lv.length + lm.length ≤ 140737488355328)
    (hn : Prot.wr ty fs false lm.length = 0) (hn2 : Prot.wr ty fs true lm.length = 0) (hq : (ty == 0) = false) (hg : Prot.tg (Prot.cut fs lm) = g) (ha : Prot.ta (Prot.cut fs lm) = a) (hr : Prot.tr (Prot.cut fs lm) = r)
    (hx : Prot.guard ty fs lv lm = x) :
    Calls Try.prog 26 #[.agg #[.int .i64 ty, .bool fs], v, mm, .agg #[.bool cg, .bool ca, .bool cr, .int .u16 (uv t), .int .u16 (uv m)], .int .u32 (uv y)] w fun e w' => e = .returned (.tuple #[.int .i64 (if Prot.esc ty a r then 0 else Prot.code3 (cg && (g != x)) (ca && ((a ^^^ t) &&& m != 0#16)) (cr && ((ty != 3) && (r != y)))), .int .i64 0]) ∧ Below w.heap.size w w' := by
  have hb2 : Below w.heap.size w ((w.alloc (.cells #[.int .i64 ty, .bool fs] 28)).alloc (.cells #[.bool cg, .bool ca, .bool cr, .int .u16 (uv t), .int .u16 (uv m)] 53)) := gr_tr (gr_alloc _ _) (gr_alloc _ _)
  have HB2 := Lib.hid hb2; clear hb2
  have HV := Lib.hid hv; clear hv
  have HM := Lib.hid hm; clear hm
  have HS1 := Lib.hid hs; clear hs
  have HN := Lib.hid hn; clear hn
  obtain ⟨hok, -, h8⟩ := Prot.wr_ok HN.out
  have hrg := Prot.valid_range hok
  have H8 := Lib.hid h8; clear h8 hok
  have HRG := Lib.hid hrg; clear hrg
  have HN2 := Lib.hid hn2; clear hn2
  have HG := Lib.hid hg; clear hg
  have HA := Lib.hid ha; clear ha
  have HR := Lib.hid hr; clear hr
  have HX := Lib.hid hx; clear hx
  obtain ⟨b1, h1⟩ : ∃ b, (uv a == 65535) = b := ⟨_, rfl⟩
  obtain ⟨b2, h2⟩ : ∃ b, decide (ty < 3) = b := ⟨_, rfl⟩
  obtain ⟨b3, h3⟩ : ∃ b, (uv r == 4294967295) = b := ⟨_, rfl⟩
  have h2' : (ty != 3) = b2 := by
    rw [← h2]; have := HRG.out
    by_cases e : ty = 3
    · subst e; rfl
    · rw [bne_iff_ne.2 e]; simp; omega
  obtain ⟨es, hes⟩ : ∃ b, Prot.esc ty a r = b := ⟨_, rfl⟩
  have hes' : es = (b1 && (b2 || b3)) := by rw [← hes]; unfold Prot.esc; rw [h1, h2', h3]
  obtain ⟨bg, hbg⟩ : ∃ b, (g != x) = b := ⟨_, rfl⟩
  obtain ⟨ba, hba⟩ : ∃ b, (a &&& m != t &&& m) = b := ⟨_, rfl⟩
  obtain ⟨br, hbr⟩ : ∃ b, (r != y) = b := ⟨_, rfl⟩
  rw [hbg, ← mask_ne, hba, hbr, h2', hes]
  obtain ⟨z1, hz1⟩ : ∃ b, (cg && bg) = b := ⟨_, rfl⟩
  obtain ⟨z2, hz2⟩ : ∃ b, (ca && ba) = b := ⟨_, rfl⟩
  obtain ⟨z3, hz3⟩ : ∃ b, (cr && (b2 && br)) = b := ⟨_, rfl⟩
  rw [hz1, hz2, hz3]
  have HZ1 := Lib.hid hz1; clear hz1
  have HZ2 := Lib.hid hz2; clear hz2
  have HZ3 := Lib.hid hz3; clear hz3
  clear hes h2'
  have H1 := Lib.hid h1; clear h1
  have H2 := Lib.hid h2; clear h2
  have H3 := Lib.hid h3; clear h3
  have HES := Lib.hid hes'; clear hes'
  have HBG := Lib.hid hbg; clear hbg
  have HBA := Lib.hid hba; clear hba
  have HBR := Lib.hid hbr; clear hbr
  go_enter Try.func26, Try.ntmps26
  go_upto_region 5 with (first
    | (go_at_call 23; refine (Wrong_any _ _ _ _ 0 _ (HM.out.below HB2.out) HN.out).mono ?_; rintro e w1 ⟨rfl, hw1⟩; have d0 : w1.cell? ⟨w.heap.size, 0, none⟩ = some (.int .i64 ty) := below_get hw1 (by simp [go_sem]); have d1 : w1.cell? ⟨w.heap.size, 1, none⟩ = some (.bool fs) := below_get hw1 (by simp [go_sem]); have e0 : w1.cell? ⟨w.heap.size + 1, 0, none⟩ = some (.bool cg) := below_get hw1 (by simp [go_sem]); have e1 : w1.cell? ⟨w.heap.size + 1, 1, none⟩ = some (.bool ca) := below_get hw1 (by simp [go_sem]); have e2 : w1.cell? ⟨w.heap.size + 1, 2, none⟩ = some (.bool cr) := below_get hw1 (by simp [go_sem]); have e3 : w1.cell? ⟨w.heap.size + 1, 3, none⟩ = some (.int .u16 (uv t)) := below_get hw1 (by simp [go_sem]); have e4 : w1.cell? ⟨w.heap.size + 1, 4, none⟩ = some (.int .u16 (uv m)) := below_get hw1 (by simp [go_sem]); have B1 := Lib.hid (gr_tr HB2.out hw1); clear hw1)
    | (go_at_call 28; refine (rRead_at _ _ _ _ g a r _ (HM.out.below B1.out) HN2.out HG.out HA.out HR.out).mono ?_; rintro e w2 ⟨rfl, hw2⟩; replace d0 := below_get hw2 d0; replace d1 := below_get hw2 d1; replace e0 := below_get hw2 e0; replace e1 := below_get hw2 e1; replace e2 := below_get hw2 e2; replace e3 := below_get hw2 e3; replace e4 := below_get hw2 e4; have B2 := Lib.hid (gr_tr B1.out hw2); clear hw2)
    | (refine wpList_store_new rfl 25 (.tmp 13) _ rfl #[.int .u16 (uv g), .int .u16 (uv a), .int .u32 (uv r)] 25 #[.int .u16 0, .int .u16 0, .int .u32 0] rfl rfl (by kernel_rfl) rfl (by simp [Value.oneCell']) ?_; intro w3 hr3 hb3; replace d0 := below_get hb3 d0; replace d1 := below_get hb3 d1; replace e0 := below_get hb3 e0; replace e1 := below_get hb3 e1; replace e2 := below_get hb3 e2; replace e3 := below_get hb3 e3; replace e4 := below_get hb3 e4; have k0 := cell_of_row _ _ 0 _ _ _ hr3; have k1 := cell_of_row _ _ 1 _ _ _ hr3; have k2 := cell_of_row _ _ 2 _ _ _ hr3; simp at k0 k1 k2; have B3 := Lib.hid (gr_tr B2.out hb3); clear hr3 hb3))
  go_cut [32] (fun s wx => s = .bool es ∧ wx = w3)
  case first =>
    have h1 := H1.out
    have h2 := H2.out
    have h3 := H3.out
    have hes := HES.out
    cases b1 <;> cases b2 <;> cases b3 <;> (cases es <;> first | exact absurd hes (by decide) | skip) <;> clear hes
    all_goals (go_wp2_with fail; go_meet; exact ⟨rfl, rfl⟩)
  case rest =>
    obtain ⟨rfl, hw⟩ := hcut
    replace hw := hw.symm
    subst hw
    cases es
    · go_upto_region 7 with fail
      go_cut [46] (fun s wx => s = .bool z1 ∧ Below w3.heap.size w3 wx)
      case first =>
        have c1 : ∀ y : KeepT nowhere w3, y.val.cell? ⟨w.heap.size, 0, none⟩ = some (.int .i64 ty) := fun y => y.cell d0 id
        have c2 : ∀ y : KeepT nowhere w3, y.val.cell? ⟨w.heap.size, 1, none⟩ = some (.bool fs) := fun y => y.cell d1 id
        have c3 : ∀ y : KeepT nowhere w3, y.val.cell? ⟨w.heap.size + 1, 0, none⟩ = some (.bool cg) := fun y => y.cell e0 id
        have c4 : ∀ y : KeepT nowhere w3, y.val.cell? ⟨w2.heap.size, 0, none⟩ = some (.int .u16 (uv g)) := fun y => y.cell k0 id
        have hbg := HBG.out
        cases cg
        · refine wp_region_planW nowhere [(true, 0), (true, 1), (true, 2), (true, 3), (true, 4), (true, 5), (true, 6), (true, 7), (false, 8), (true, 9), (true, 10), (true, 11)]
            (by kernel_rfl) (by kernel_rfl) (by intro c a d v w h; cases d <;> exact h) ?_
          intro W1 K1 C1
          repeat (refine wpS_firm rfl (fun K hK => ?_); simp only [Keep]; go_simp; refine hK _ ?_; clear hK K)
          refine wpS_chain rfl ?_
          go_wp2_with fail
          refine ⟨K1.out, ?_⟩
          repeat (refine wpS_firm rfl (fun K hK => ?_); simp only [Keep]; go_simp; refine hK _ ?_; clear hK K)
          unfold wpS
          go_wp2_with fail
          go_meet
          exact ⟨by rw [← HZ1.out]; rfl, C1.out⟩
        · refine wp_region_planW nowhere [(true, 0), (true, 1), (true, 2), (true, 3), (true, 4), (true, 5), (true, 6), (true, 7), (false, 8), (true, 9), (true, 10), (true, 11)]
            (by kernel_rfl) (by kernel_rfl) (by intro c a d v w h; cases d <;> exact h) ?_
          intro W1 K1 C1
          have D1 := Lib.hid (gr_tr B3.out C1.out)
          repeat (refine wpS_firm rfl (fun K hK => ?_); simp only [Keep]; go_simp; refine hK _ ?_; clear hK K)
          refine wpS_chain rfl ?_
          go_wp2_with (go_at_call 24; refine (rGuard_at _ _ _ _ _ _ _ _ (HV.out.below D1.out) (HM.out.below D1.out) H8.out HRG.out.1 HS1.out HX.out).mono ?_; rintro e w4 ⟨rfl, hw4⟩; have C4 := Lib.hid (gr_tr C1.out hw4); have K4 := Lib.hid (K1.out.below hw4); clear hw4)
          refine ⟨K4.out, ?_⟩
          repeat (refine wpS_firm rfl (fun K hK => ?_); simp only [Keep]; go_simp; refine hK _ ?_; clear hK K)
          unfold wpS
          go_wp2_with fail
          go_meet
          exact ⟨by rw [← HZ1.out]; rfl, C4.out⟩
      case rest =>
        obtain ⟨rfl, hb⟩ := hcut
        obtain ⟨w4, hw⟩ : ∃ x, x = wc := ⟨_, rfl⟩
        subst hw
        replace d0 := below_get hb d0
        replace e1 := below_get hb e1
        replace e2 := below_get hb e2
        replace e3 := below_get hb e3
        replace e4 := below_get hb e4
        replace k1 := below_get hb k1
        replace k2 := below_get hb k2
        have B4 := Lib.hid (gr_tr B3.out hb); clear hb e0 k0 d1
        cases z1
        · go_upto_region 9 with fail
          go_cut [58] (fun s wx => s = .bool z2 ∧ wx = w4)
          case first =>
            have hba := HBA.out
            cases ca
            all_goals (go_wp2_with fail; go_meet; exact ⟨by rw [← HZ2.out]; rfl, rfl⟩)
          case rest =>
            obtain ⟨rfl, hw⟩ := hcut
            replace hw := hw.symm
            subst hw
            cases z2
            · go_upto_region 11 with fail
              go_cut [74] (fun s wx => s = .bool z3 ∧ wx = w4)
              case first =>
                have hbr := HBR.out
                have h2 := H2.out
                cases cr <;> cases b2
                all_goals (go_wp2_with fail; go_meet; exact ⟨by rw [← HZ3.out]; rfl, rfl⟩)
              case rest =>
                obtain ⟨rfl, hw⟩ := hcut
                replace hw := hw.symm
                subst hw
                cases z3
                all_goals (go_wp2_with fail; go_ret2; exact ⟨rfl, B4.out⟩)
            · go_wp2_with fail
              go_ret2
              exact ⟨rfl, B4.out⟩
        · go_wp2_with fail
          go_ret2
          exact ⟨rfl, B4.out⟩
    · go_wp2_with fail
      go_ret2
      exact ⟨rfl, B3.out⟩

set_option maxRecDepth 4000 in
set_option maxHeartbeats 800000 in
theorem rCheck_any (ty : Int) (fs : Bool) (v mm : Value) (lv lm : List (BitVec 8)) (cg ca cr : Bool) (t m : BitVec 16) (y : BitVec 32) (w : World) (hv : BytesV w v lv) (hm : BytesV w mm lm) (hs : lv.length + lm.length ≤ 140737488355000) :
    Calls Try.prog 26 #[.agg #[.int .i64 ty, .bool fs], v, mm, .agg #[.bool cg, .bool ca, .bool cr, .int .u16 (uv t), .int .u16 (uv m)], .int .u32 (uv y)] w fun e w' => e = .returned (.tuple #[.int .i64 (Prot.chk ty fs lv lm cg ca cr t m y), .int .i64 (Prot.wr ty fs false lm.length)]) ∧ Below w.heap.size w w' := by
  have hb2 : Below w.heap.size w ((w.alloc (.cells #[.int .i64 ty, .bool fs] 28)).alloc (.cells #[.bool cg, .bool ca, .bool cr, .int .u16 (uv t), .int .u16 (uv m)] 53)) := gr_tr (gr_alloc _ _) (gr_alloc _ _)
  have HB2 := Lib.hid hb2; clear hb2
  obtain ⟨n, hn⟩ : ∃ n, Prot.wr ty fs false lm.length = n := ⟨_, rfl⟩
  unfold Prot.chk
  rw [hn]
  have HN := Lib.hid hn; clear hn
  have HV := Lib.hid hv; clear hv
  have HM := Lib.hid hm; clear hm
  have hs1 : lv.length + lm.length ≤ 140737488355328 := by omega
  have HS1 := Lib.hid hs1; clear hs1 hs
  have hc := HN.out ▸ Prot.wr_cases ty fs false lm.length
  rcases hc with rfl | rfl | rfl
  · rw [if_pos rfl]
    by_cases h0 : ty = 0
    · subst h0
      rw [if_pos rfl]
      go_enter Try.func26, Try.ntmps26
      go_wp2_with (go_at_call 23; refine (Wrong_any _ _ _ _ 0 _ (HM.out.below HB2.out) HN.out).mono ?_; rintro e w1 ⟨rfl, hw1⟩; have d0 : w1.cell? ⟨w.heap.size, 0, none⟩ = some (.int .i64 0) := below_get hw1 (by simp [go_sem]); have B1 := Lib.hid (gr_tr HB2.out hw1); clear hw1)
      go_ret2
      exact ⟨rfl, B1.out⟩
    · have hq : (ty == 0) = false := by simpa using h0
      have hn2 := Prot.wr_true HN.out hq
      rw [if_neg h0]
      exact rCheck_tail ty fs v mm lv lm cg ca cr t m y _ _ _ _ w HV.out HM.out HS1.out HN.out hn2 hq rfl rfl rfl rfl
  all_goals
    go_enter Try.func26, Try.ntmps26
    go_wp2_with (go_at_call 23; refine (Wrong_any _ _ _ _ _ _ (HM.out.below HB2.out) HN.out).mono ?_; rintro e w1 ⟨rfl, hw1⟩; have B1 := Lib.hid (gr_tr HB2.out hw1); clear hw1)
    go_ret2
    exact ⟨rfl, B1.out⟩
end Go.Proofs.Ytmccihngbdopdaa
