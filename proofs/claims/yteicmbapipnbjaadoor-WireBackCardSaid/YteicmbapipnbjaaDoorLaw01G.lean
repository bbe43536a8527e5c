/- WireBack: joined. -/
import Derived.Test.YteicmbapipnbjaaDoorLaw01F
import Derived.Test.YteicmbapipnbjaaDoorWireN
namespace Go.Proofs.YteicmbapipnbjaaDoor
open Go.RowKit
set_option linter.unusedVariables false
set_option linter.unusedSimpArgs false
set_option maxHeartbeats 3200000 in
set_option maxRecDepth 8000 in
theorem back_yes_ins (v0 : Value) (fl : List WF) (x : BitVec 64) (lo n : Nat) (y : BitVec 64) (b : Int) (w : World) (hf : FieldsV w v0 fl) (hl1 : lo ≤ 63) (hl2 : n ≤ 64 - lo) (h : fl.length ≤ 50) (he : addE [] (Wire.allB fl) (Wire.allE fl) = 0) (hins : Wire.insE lo n y = 0) :
    Calls Tryd.prog 7 #[v0, .int .u64 (uv x), .int .i64 lo, .int .i64 n, .int .u64 (uv y), .int .i64 b] w fun e w' => e = .returned (.bool true) ∧ Below w.heap.size w w' := by
  obtain ⟨l8, hl8⟩ : ∃ l, Wire.putB x 8 = l := ⟨_, rfl⟩
  obtain ⟨h1, h2, h3⟩ := Wire.put8 x
  rw [hl8] at h2 h3
  obtain ⟨z, hz⟩ : ∃ e, Wire.insV x lo n y = e := ⟨_, rfl⟩
  obtain ⟨g1, g2⟩ := Wire.ins_back x lo n y hins
  have g3 := fun p hp ho => Wire.ins_out x lo n y p hins hp ho
  rw [hz] at g2 g3
  have F := Lib.hid hf; have HEE := Lib.hid he; have HL8 := Lib.hid hl8; have P1 := Lib.hid h1; have P2 := Lib.hid h2; have P3 := Lib.hid h3; have HIE := Lib.hid hins; have HZ := Lib.hid hz; have HLEN := Lib.hid h; have G1 := Lib.hid g1; have G2 := Lib.hid g2; have G3 := Lib.hid g3
  have HL1 := Lib.hid hl1; have HL2 := Lib.hid hl2
  have ws : IntKind.i64.wrap ((lo : Int) + (n : Int)) = (lo : Int) + (n : Int) := by
    unfold IntKind.wrap; simp [IntKind.bits, IntKind.signed]; omega
  obtain ⟨a, c, rfl, _, _, _, hrow⟩ := hf
  have HROW := Lib.hid hrow
  have hd : decide ((50 : Int) < (fl.length : Int)) = false := decide_eq_false (by omega)
  have hm' : fl.length ≤ 9223372036854775807 := by omega
  clear he hl8 h1 h2 h3 hz hins g1 g2 g3 hrow
  go_enter Tryd.func7, Tryd.ntmps7
  go_wp2_with (go_at_call 25; go_loud (refine (AddAll_any _ _ _ [] _ fl _ _ _ (wr_new w) (F.out.below (gr_alloc _ _)) (Nat.le_of_lt (by simp)) (by have := HLEN.out; omega) rfl rfl).mono ?_; rw [HEE.out]; rintro r w1 ⟨rfl, ⟨v1, hw1, -⟩, hc⟩; have D := Lib.hid (wr_fresh (wr_new w) hc (gr_alloc w _) (Nat.le_refl _) (Nat.le_refl _)); have W1 := Lib.hid hw1; clear hc hw1))
  go_loopw [14, 15, 16] (fun o1 o2 i wr => ∃ k : Nat, k ≤ fl.length ∧ i = .int .i64 k ∧ wr.ownsRow w1.heap.size 3 1 o1 k (ints ((fl.take k).map (·.2))) ∧ wr.ownsRow w1.heap.size 22 1 o2 k (wd ((fl.take k).map (·.1))) ∧ Below w1.heap.size w1 wr) (fun _ _ i _ => fl.length - (intOf i).toNat)
  case atStart => exact ⟨0, by omega, rfl, World.ownsRow_nil _ _ _ _, World.ownsRow_nil _ _ _ _, Below.refl _ _⟩
  case round =>
    obtain ⟨k, hk, rfl, ho1, ho2, hb⟩ := hrel
    have O1 := Lib.hid ho1; have O2 := Lib.hid ho2; have B := Lib.hid hb; clear ho1 ho2 hb
    by_cases hlt : k < fl.length
    · obtain ⟨⟨xv, nv⟩, hx⟩ : ∃ f, fl[k]? = some f := ⟨fl[k], List.getElem?_eq_getElem hlt⟩
      have hT1 := take_map fl k _ (·.2) hx
      have hT2 := take_map fl k _ (·.1) hx
      have T1 := Lib.hid hT1; have T2 := Lib.hid hT2; clear hT1 hT2
      obtain ⟨g1, g2⟩ := fCells_get fl k _ hx
      have g1' := g1; have C0 := Lib.hid g1; have C1 := Lib.hid g2; clear g1 g2 hx
      obtain ⟨bb, oo, rfl, c0⟩ := (HROW.out.below (D.out.trans (B.out.mono D.out.size))).at C0.out
      obtain ⟨b', o', e1, c1⟩ := (HROW.out.below (D.out.trans (B.out.mono D.out.size))).at C1.out
      cases e1
      rw [← Nat.add_assoc] at c1
      have hbb : bb < w.heap.size := HROW.out.lt (fun e => by rw [e] at g1'; simp at g1')
      have HBB := Lib.hid hbb; clear hbb
      have nB : ¬ (u14.ownBlock = some bb ∨ u15.ownBlock = some bb) := by
        have := HBB.out; have := D.out.size
        rintro (h | h)
        · have := (O1.out.lt bb h).1; omega
        · have := (O2.out.lt bb h).1; omega
      have q0 : ∀ y : KeepT (fun b => u14.ownBlock = some b ∨ u15.ownBlock = some b) wr, y.val.cell? ⟨bb, oo + k * 2, none⟩ = some (.int .u64 (uv xv)) := fun y => y.cell c0 nB
      have q1 : ∀ y : KeepT (fun b => u14.ownBlock = some b ∨ u15.ownBlock = some b) wr, y.val.cell? ⟨bb, oo + k * 2 + 1, none⟩ = some (.int .i64 nv) := fun y => y.cell c1 nB
      go_wp2
      refine wp_region_planT (fun b => u14.ownBlock = some b ∨ u15.ownBlock = some b) (.firm 0 (.firm 1 (.firm 2 (.firm 3 (.firm 4 (.firm 5 (.firm 8 (.firm 9 (.firm 10 (.firm 11 (.firm 12 (.firm 13 (.two 6 (.two 7 (.one 14 (.one 15 (.firm 16 (.firm 17 .done)))) 14 (.one 7 (.one 15 (.firm 16 (.firm 17 .done))))) 14 (.one 6 (.one 7 (.one 15 (.firm 16 (.firm 17 .done)))))))))))))))))
        ) (by kernel_rfl) (by kernel_rfl) (by intro c a d v w h; cases d <;> exact h) ?_
      intro X1 K1 E1
      repeat (refine wpT_firm rfl (fun K hK => ?_); simp only [Keep]; go_simp; refine hK _ ?_; clear hK K)
      have S1 := Lib.hid (Nat.le_trans B.out.size E1.out.size)
      have L1 := Lib.hid ((B.out.trans (E1.out.mono B.out.size)))
      have A1 := Lib.hid (own_below O1.out E1.out); have A2 := Lib.hid (own_below O2.out E1.out)
      have hk9 := Lib.hid (show k ≤ 1000000000 by have := HLEN.out; omega)
      refine wpT_two rfl rfl ?_ ?_
      · go_wp2_with fail
        refine ⟨K1.out.alloc _, ?_⟩
        have L2 := Lib.hid (L1.out.alloc S1.out (.cells #[.int .i64 nv] 3))
        have S2 := Lib.hid L2.out.size
        have A1' := Lib.hid (own_below A1.out (gr_alloc X1 (.cells #[.int .i64 nv] 3))); have A2' := Lib.hid (own_below A2.out (gr_alloc X1 (.cells #[.int .i64 nv] 3)))
        refine wpT_two rfl rfl ?_ ?_
        · refine app_int rfl (.tmp 41) (.tmp 47) rfl u14 w1.heap.size k _ rfl A1'.out S2.out X1.heap.size nv rfl (heap_alloc_new X1 _) hk9.out ?_
          intro v7 X7 ho hg _
          have N1 := Lib.hid ho
          have N2 := Lib.hid (own_grown A2'.out A1'.out (by decide) hg)
          have K7 := Lib.hid ((K1.out.alloc _).grown hg (fun k hk => .inl (.inl hk)))
          have L7 := Lib.hid (L2.out.grown hg S2.out (fun k hk => (A1'.out.lt k hk).1))
          clear ho hg
          go_wp2_with fail
          refine ⟨K7.out, ?_⟩
          refine wpT_chain rfl ?_
          go_wp2_with fail
          refine ⟨K7.out.alloc _, ?_⟩
          have L8 := Lib.hid (L7.out.alloc L7.out.size (.cells #[.int .u64 (uv xv)] 22))
          have N1' := Lib.hid (own_below N1.out (gr_alloc X7 (.cells #[.int .u64 (uv xv)] 22))); have N2' := Lib.hid (own_below N2.out (gr_alloc X7 (.cells #[.int .u64 (uv xv)] 22)))
          refine wpT_chain rfl ?_
          refine app_word rfl (.tmp 49) (.tmp 55) rfl u15 w1.heap.size k _ rfl N2'.out L8.out.size X7.heap.size xv rfl (heap_alloc_new X7 _) hk9.out ?_
          intro v9 X9 ho hg _
          have M2 := Lib.hid ho
          have M1 := Lib.hid (own_grown N1'.out N2'.out (by decide) hg)
          have K9 := Lib.hid ((K7.out.alloc _).grown hg (fun k hk => .inl (.inr hk)))
          have L9 := Lib.hid (L8.out.grown hg L8.out.size (fun k hk => (N2'.out.lt k hk).1))
          clear ho hg
          go_wp2_with fail
          refine ⟨K9.out, ?_⟩
          repeat (refine wpT_firm rfl (fun K hK => ?_); simp only [Keep]; go_simp; refine hK _ ?_; clear hK K)
          unfold wpT
          go_wp2_with fail
          go_roundw
          case rel => exact ⟨k + 1, by omega, by go_num, by rw [T1.out]; exact M1.out, by rw [T2.out]; exact M2.out, L9.out⟩
          case measure => simp [intOf]; omega
        · go_wp2_with fail
          refine ⟨(K1.out.alloc _).alloc _, ?_⟩
          have A1p := Lib.hid (own_below A1.out (gr_alloc X1 (.cells #[.int .i64 nv] 3))); have A2p := Lib.hid (own_below A2.out (gr_alloc X1 (.cells #[.int .i64 nv] 3)))
          have L2p := Lib.hid (L1.out.alloc S1.out (.cells #[.int .i64 nv] 3))
          have L3 := Lib.hid (L2p.out.alloc L2p.out.size (.cells #[.int .u64 (uv xv)] 22))
          have B1p := Lib.hid (own_below A1p.out (gr_alloc (X1.alloc (.cells #[.int .i64 nv] 3)) (.cells #[.int .u64 (uv xv)] 22))); have B2p := Lib.hid (own_below A2p.out (gr_alloc (X1.alloc (.cells #[.int .i64 nv] 3)) (.cells #[.int .u64 (uv xv)] 22)))
          have Za : ((X1.alloc (.cells #[.int .i64 nv] 3)).alloc (.cells #[.int .u64 (uv xv)] 22)).heap[X1.heap.size]? = some (.cells #[.int .i64 nv] 3) := ((gr_alloc (X1.alloc (.cells #[.int .i64 nv] 3)) (.cells #[.int .u64 (uv xv)] 22)).block _ (by simp)).trans (heap_alloc_new X1 _)
          have Zb : ((X1.alloc (.cells #[.int .i64 nv] 3)).alloc (.cells #[.int .u64 (uv xv)] 22)).heap[X1.heap.size + 1]? = some (.cells #[.int .u64 (uv xv)] 22) := by rw [← World.size_alloc X1 (.cells #[.int .i64 nv] 3)]; exact heap_alloc_new (X1.alloc (.cells #[.int .i64 nv] 3)) (.cells #[.int .u64 (uv xv)] 22)
          have ZA := Lib.hid Za; have ZB := Lib.hid Zb; clear Za Zb
          refine wpT_chain rfl ?_
          refine app_int rfl (.tmp 41) (.tmp 47) rfl u14 w1.heap.size k _ rfl B1p.out L3.out.size X1.heap.size nv rfl ZA.out hk9.out ?_
          intro v7 X7 ho hg _
          have N1 := Lib.hid ho
          have N2 := Lib.hid (own_grown B2p.out B1p.out (by decide) hg)
          have K7 := Lib.hid (((K1.out.alloc (.cells #[.int .i64 nv] 3)).alloc (.cells #[.int .u64 (uv xv)] 22)).grown hg (fun k hk => .inl (.inl hk)))
          have L7 := Lib.hid (L3.out.grown hg L3.out.size (fun k hk => (B1p.out.lt k hk).1))
          have Z7 := Lib.hid (blk_grown ZB.out hg (fun e => by have := (A1p.out.lt _ e).2; simp at this))
          clear ho hg
          go_wp2_with fail
          refine ⟨K7.out, ?_⟩
          refine wpT_chain rfl ?_
          refine app_word rfl (.tmp 49) (.tmp 55) rfl u15 w1.heap.size k _ rfl N2.out L7.out.size (X1.heap.size + 1) xv rfl Z7.out hk9.out ?_
          intro v9 X9 ho hg _
          have M2 := Lib.hid ho
          have M1 := Lib.hid (own_grown N1.out N2.out (by decide) hg)
          have K9 := Lib.hid (K7.out.grown hg (fun k hk => .inl (.inr hk)))
          have L9 := Lib.hid (L7.out.grown hg L7.out.size (fun k hk => (N2.out.lt k hk).1))
          clear ho hg
          go_wp2_with fail
          refine ⟨K9.out, ?_⟩
          repeat (refine wpT_firm rfl (fun K hK => ?_); simp only [Keep]; go_simp; refine hK _ ?_; clear hK K)
          unfold wpT
          go_wp2_with fail
          go_roundw
          case rel => exact ⟨k + 1, by omega, by go_num, by rw [T1.out]; exact M1.out, by rw [T2.out]; exact M2.out, L9.out⟩
          case measure => simp [intOf]; omega
      · · go_wp2_with fail
          refine ⟨K1.out.alloc _, ?_⟩
          refine wpT_chain rfl ?_
          go_wp2_with fail
          refine ⟨(K1.out.alloc _).alloc _, ?_⟩
          have A1p := Lib.hid (own_below A1.out (gr_alloc X1 (.cells #[.int .u64 (uv xv)] 22))); have A2p := Lib.hid (own_below A2.out (gr_alloc X1 (.cells #[.int .u64 (uv xv)] 22)))
          have L2p := Lib.hid (L1.out.alloc S1.out (.cells #[.int .u64 (uv xv)] 22))
          have L3 := Lib.hid (L2p.out.alloc L2p.out.size (.cells #[.int .i64 nv] 3))
          have B1p := Lib.hid (own_below A1p.out (gr_alloc (X1.alloc (.cells #[.int .u64 (uv xv)] 22)) (.cells #[.int .i64 nv] 3))); have B2p := Lib.hid (own_below A2p.out (gr_alloc (X1.alloc (.cells #[.int .u64 (uv xv)] 22)) (.cells #[.int .i64 nv] 3)))
          have Za : ((X1.alloc (.cells #[.int .u64 (uv xv)] 22)).alloc (.cells #[.int .i64 nv] 3)).heap[X1.heap.size]? = some (.cells #[.int .u64 (uv xv)] 22) := ((gr_alloc (X1.alloc (.cells #[.int .u64 (uv xv)] 22)) (.cells #[.int .i64 nv] 3)).block _ (by simp)).trans (heap_alloc_new X1 _)
          have Zb : ((X1.alloc (.cells #[.int .u64 (uv xv)] 22)).alloc (.cells #[.int .i64 nv] 3)).heap[X1.heap.size + 1]? = some (.cells #[.int .i64 nv] 3) := by rw [← World.size_alloc X1 (.cells #[.int .u64 (uv xv)] 22)]; exact heap_alloc_new (X1.alloc (.cells #[.int .u64 (uv xv)] 22)) (.cells #[.int .i64 nv] 3)
          have ZA := Lib.hid Za; have ZB := Lib.hid Zb; clear Za Zb
          refine wpT_chain rfl ?_
          refine app_int rfl (.tmp 41) (.tmp 47) rfl u14 w1.heap.size k _ rfl B1p.out L3.out.size (X1.heap.size + 1) nv rfl ZB.out hk9.out ?_
          intro v7 X7 ho hg _
          have N1 := Lib.hid ho
          have N2 := Lib.hid (own_grown B2p.out B1p.out (by decide) hg)
          have K7 := Lib.hid (((K1.out.alloc (.cells #[.int .u64 (uv xv)] 22)).alloc (.cells #[.int .i64 nv] 3)).grown hg (fun k hk => .inl (.inl hk)))
          have L7 := Lib.hid (L3.out.grown hg L3.out.size (fun k hk => (B1p.out.lt k hk).1))
          have Z7 := Lib.hid (blk_grown ZA.out hg (fun e => by have := (A1.out.lt _ e).2; simp at this))
          clear ho hg
          go_wp2_with fail
          refine ⟨K7.out, ?_⟩
          refine wpT_chain rfl ?_
          refine app_word rfl (.tmp 49) (.tmp 55) rfl u15 w1.heap.size k _ rfl N2.out L7.out.size X1.heap.size xv rfl Z7.out hk9.out ?_
          intro v9 X9 ho hg _
          have M2 := Lib.hid ho
          have M1 := Lib.hid (own_grown N1.out N2.out (by decide) hg)
          have K9 := Lib.hid (K7.out.grown hg (fun k hk => .inl (.inr hk)))
          have L9 := Lib.hid (L7.out.grown hg L7.out.size (fun k hk => (N2.out.lt k hk).1))
          clear ho hg
          go_wp2_with fail
          refine ⟨K9.out, ?_⟩
          repeat (refine wpT_firm rfl (fun K hK => ?_); simp only [Keep]; go_simp; refine hK _ ?_; clear hK K)
          unfold wpT
          go_wp2_with fail
          go_roundw
          case rel => exact ⟨k + 1, by omega, by go_num, by rw [T1.out]; exact M1.out, by rw [T2.out]; exact M2.out, L9.out⟩
          case measure => simp [intOf]; omega
    · obtain rfl : k = fl.length := by omega
      obtain ⟨z1, z2⟩ := add_zero HEE.out
      obtain ⟨t1, t2, t3⟩ := Wire.trip_all fl z1
      rw [List.nil_append] at z2
      rw [z2] at W1
      have hbl := W1.out.len
      obtain ⟨BL, hBL⟩ : ∃ l, Wire.allB fl = l := ⟨_, rfl⟩
      rw [hBL] at t1 t2 t3 W1 hbl
      have o1 := O1.out; have o2 := O2.out
      rw [List.take_length] at o1 o2
      have IV := Lib.hid (IntsV.of_own (l := fl.map (·.2)) (by rw [List.length_map]; exact o1))
      have WO := Lib.hid o2
      have WA := Lib.hid (W1.out.below B.out)
      have DB := Lib.hid (D.out.trans (B.out.mono D.out.size))
      have T1 := Lib.hid t1; have T2 := Lib.hid t2; have T3 := Lib.hid t3; have HBL := Lib.hid hbl
      obtain ⟨i1, i2, rfl⟩ := own_shape o1
      obtain ⟨j1, j2, rfl⟩ := own_shape o2
      clear z1 z2 t1 t2 t3 hBL hbl o1 o2 O1 O2 W1 hlt
      go_upto_region 27 with (first
        | (go_at_call 27; go_loud (refine (Bytes_w _ _ _ _ _ WA.out).mono ?_; rintro r w2 ⟨u2, rfl, ho, hw⟩; have U := Lib.hid (BytesV.of_own (l := BL) ho); replace DB := Lib.hid (DB.out.trans (hw.mono DB.out.size)); replace IV := Lib.hid (IV.out.below hw); replace WO := Lib.hid (own_below WO.out hw); clear ho hw))
        | (go_at_call 26; go_loud (refine (NewReader_any _ BL _ U.out (by have := HBL.out; omega)).mono ?_; rintro r w3 ⟨q, v3, rfl, hq, hr, hw⟩; have R := Lib.hid hr; have HQ := Lib.hid (show w.heap.size ≤ q from Nat.le_trans DB.out.size hq); replace DB := Lib.hid (DB.out.trans (hw.mono DB.out.size)); replace IV := Lib.hid (IV.out.below hw); have NQ := Lib.hid (own_new WO.out hq); replace WO := Lib.hid (own_below WO.out hw); clear hr hw hq))
        | (go_at_call 28; go_loud (refine (All_ok _ _ BL 0 _ (fl.map (·.2)) _ R.out IV.out (by rw [List.length_map]; have := HLEN.out; omega) T1.out).mono ?_; rw [T2.out, T3.out]; rintro r w4 ⟨x4, rfl, ho, ⟨v4, hr⟩, hc⟩; have R4 := Lib.hid hr; have X4 := Lib.hid (WordsV.of_own (l := fl.map (·.1)) (by simpa using ho)); replace DB := Lib.hid (hc.fresh DB.out (fun k hk => hk ▸ HQ.out)); replace WO := Lib.hid (own_chg WO.out hc NQ.out); clear hr ho hc))
        | (go_at_call 29; go_loud (refine (SameWords_eq _ _ (fl.map (·.1)) _ X4.out (WordsV.of_own (l := fl.map (·.1)) (by simpa using WO.out))).mono ?_; rintro r w5 ⟨rfl, hw⟩; replace R4 := Lib.hid (R4.out.below hw); replace DB := Lib.hid (DB.out.trans (hw.mono DB.out.size)); clear hw))
        | (go_at_call 30; go_loud (refine (Left_any _ _ _ [] _ _ R4.out).mono ?_; rintro r w' ⟨rfl, rfl⟩))
        | (go_at_call 11; go_loud (refine (Put_at x 8 0 l8 _ P1.out HL8.out).mono ?_; rintro r w6 ⟨u, rfl, ho, hw⟩; have X := Lib.hid (BytesV.of_own ho); replace DB := Lib.hid (DB.out.trans (hw.mono DB.out.size)); clear ho hw))
        | (go_at_call 15; go_loud (refine (Get_at _ l8 x 0 _ X.out P2.out P3.out).mono ?_; rintro r w' ⟨rfl, rfl⟩))
        | (go_at_call 19; go_loud (refine (Insert_at x lo n y z 0 _ (by have := HL1.out; omega) HZ.out HIE.out).mono ?_; rintro r w7 ⟨rfl, hw⟩; replace DB := Lib.hid (DB.out.trans (hw.mono DB.out.size)); clear hw))
        | (go_at_call 17; go_loud (refine (Field_at z lo n y 0 _ (by have := HL1.out; omega) G2.out G1.out).mono ?_; rintro r w' ⟨rfl, rfl⟩)))
      by_cases hb : b < 0 ∨ 63 < b ∨ ((lo : Int) ≤ b ∧ b < (lo : Int) + n)
      · rcases hb with hb | hb | ⟨hb, hb'⟩
        · go_wp2_with (go_at_call 14; go_loud (refine (known_any _).mono ?_; rintro r w17 ⟨rfl, hw⟩; replace DB := Lib.hid (DB.out.trans (hw.mono DB.out.size)); clear hw))
          go_ret
          exact ⟨rfl, DB.out⟩
        · go_wp2_with (go_at_call 14; go_loud (refine (known_any _).mono ?_; rintro r w17 ⟨rfl, hw⟩; replace DB := Lib.hid (DB.out.trans (hw.mono DB.out.size)); clear hw))
          go_ret
          exact ⟨rfl, DB.out⟩
        · have q1 : decide (b < 0) = false := decide_eq_false (by omega)
          have q2 : decide (63 < b) = false := decide_eq_false (by omega)
          have q3 : decide ((lo : Int) ≤ b) = true := decide_eq_true hb
          have q4 : decide (b < (lo : Int) + n) = true := decide_eq_true hb'
          clear hb hb'
          go_wp2_with (go_at_call 14; go_loud (refine (known_any _).mono ?_; rintro r w17 ⟨rfl, hw⟩; replace DB := Lib.hid (DB.out.trans (hw.mono DB.out.size)); clear hw))
          go_ret
          exact ⟨rfl, DB.out⟩
      · obtain ⟨p, rfl⟩ := Int.eq_ofNat_of_zero_le (show 0 ≤ b by omega)
        have hp : p ≤ 63 := by omega
        have G4 := Lib.hid (G3.out p hp (by omega))
        by_cases hb1 : p < lo
        · have q1 : decide ((p : Int) < 0) = false := decide_eq_false (by omega)
          have q2 : decide (63 < (p : Int)) = false := decide_eq_false (by omega)
          have q3 : decide (lo ≤ p) = false := decide_eq_false (by omega)
          clear hb hb1
          go_wp2
          refine wp_region_planW nowhere [(true, 0), (true, 1), (true, 2), (true, 3), (true, 4), (true, 5), (true, 6), (true, 7), (true, 8), (true, 9), (false, 10), (true, 11), (true, 12)]
            (by kernel_rfl) (by kernel_rfl) (by intro c a d v w h; cases d <;> exact h) ?_
          intro W1 K1 C1
          replace DB := Lib.hid (DB.out.trans (C1.out.mono DB.out.size))
          repeat (refine wpS_firm rfl (fun K hK => ?_); simp only [Keep]; go_simp; refine hK _ ?_; clear hK K)
          refine wpS_chain rfl ?_
          go_wp2_with (go_at_call 14; go_loud (refine (known_any _).mono ?_; rintro r w17 ⟨rfl, hw⟩; replace DB := Lib.hid (DB.out.trans (hw.mono DB.out.size)); have K2 := Lib.hid (K1.out.below hw); clear hw))
          refine ⟨K2.out, ?_⟩
          repeat (refine wpS_firm rfl (fun K hK => ?_); simp only [Keep]; go_simp; refine hK _ ?_; clear hK K)
          unfold wpS
          go_wp2
          go_ret
          exact ⟨rfl, DB.out⟩
        · have q1 : decide ((p : Int) < 0) = false := decide_eq_false (by omega)
          have q2 : decide (63 < (p : Int)) = false := decide_eq_false (by omega)
          have q3 : decide (lo ≤ p) = true := decide_eq_true (by omega)
          have q4 : decide (p < lo + n) = false := decide_eq_false (by omega)
          have q5 : decide ((p : Int) < (lo : Int) + n) = false := decide_eq_false (by omega)
          clear hb hb1
          go_wp2
          refine wp_region_planW nowhere [(true, 0), (true, 1), (true, 2), (true, 3), (true, 4), (true, 5), (true, 6), (true, 7), (true, 8), (true, 9), (false, 10), (true, 11), (true, 12)]
            (by kernel_rfl) (by kernel_rfl) (by intro c a d v w h; cases d <;> exact h) ?_
          intro W1 K1 C1
          replace DB := Lib.hid (DB.out.trans (C1.out.mono DB.out.size))
          repeat (refine wpS_firm rfl (fun K hK => ?_); simp only [Keep]; go_simp; refine hK _ ?_; clear hK K)
          refine wpS_chain rfl ?_
          go_wp2_with (go_at_call 14; go_loud (refine (known_any _).mono ?_; rintro r w17 ⟨rfl, hw⟩; replace DB := Lib.hid (DB.out.trans (hw.mono DB.out.size)); have K2 := Lib.hid (K1.out.below hw); clear hw))
          refine ⟨K2.out, ?_⟩
          repeat (refine wpS_firm rfl (fun K hK => ?_); simp only [Keep]; go_simp; refine hK _ ?_; clear hK K)
          unfold wpS
          go_wp2
          go_ret
          exact ⟨rfl, DB.out⟩
theorem lawBack (v0 : Value) (fl : List WF) (x : BitVec 64) (lo n : Int) (y : BitVec 64) (b : Int) (w : World) (hf : FieldsV w v0 fl) (hlo : -9223372036854775808 ≤ lo ∧ lo ≤ 9223372036854775807) (_ : -9223372036854775808 ≤ n ∧ n ≤ 9223372036854775807) (_ : -9223372036854775808 ≤ b ∧ b ≤ 9223372036854775807) :
    Calls Tryd.prog 7 #[v0, .int .u64 (uv x), .int .i64 lo, .int .i64 n, .int .u64 (uv y), .int .i64 b] w fun e w' => e = .returned (.bool true) ∧ Below w.heap.size w w' := by
  by_cases h : 50 < fl.length
  · exact back_long v0 fl x lo n y b w hf h
  · have h' : fl.length ≤ 50 := by omega
    by_cases he : addE [] (Wire.allB fl) (Wire.allE fl) = 0
    · by_cases hi : Wire.insE lo n y = 0
      · obtain ⟨a, c, rfl, rfl, h1, h2, h3⟩ := Wire.okField_nat (Wire.ins_ok hi).1
        exact back_yes_ins v0 fl x a c y b w hf h1 h3 h' he hi
      · exact back_yes v0 fl x lo n y b w hf hlo h' he hi
    · by_cases hi : Wire.insE lo n y = 0
      · obtain ⟨a, c, rfl, rfl, h1, h2, h3⟩ := Wire.okField_nat (Wire.ins_ok hi).1
        exact back_ins v0 fl x a c y b w hf h1 h3 h' he hi
      · exact back_no v0 fl x lo n y b w hf hlo h' he hi
end Go.Proofs.YteicmbapipnbjaaDoor
