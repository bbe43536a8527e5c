/- Discovery: Decode. Printed by gendscu.py. -/
import Derived.Test.YtjcgdenkmmgmfaaGreatDoorDscT
namespace Go.Proofs.YtjcgdenkmmgmfaaGreatDoor
open Go.RowKit Go.Shelf Dsc
set_option linter.unusedVariables false
set_option linter.unusedSimpArgs false
attribute [local go_sem] Oper.semAt_some
theorem chunks_at {w : World} {u : Value} {b : List (BitVec 8)} {k : Nat} (hu : BytesV w u (b.drop 1024)) (hl : b.length = 1024 * (1 + k)) :
    ∃ sl : Nat → Value, ∀ i, i < k → BytesV w (sl i) (chunk b (i + 1)) ∧ ∀ w', (Instr.slice 45 u (some (.int .i64 ((1024 * i : Nat) : Int))) (some (.int .i64 ((1024 * i + 1024 : Nat) : Int))) (some (.int .i64 ((1024 * i + 1024 : Nat) : Int)))).run Tryz.prog w' = .ok (sl i) w' := by
  have h : ∀ i, ∃ y, i < k → BytesV w y (chunk b (i + 1)) ∧ ∀ w', (Instr.slice 45 u (some (.int .i64 ((1024 * i : Nat) : Int))) (some (.int .i64 ((1024 * i + 1024 : Nat) : Int))) (some (.int .i64 ((1024 * i + 1024 : Nat) : Int)))).run Tryz.prog w' = .ok y w' := by
    intro i
    by_cases hi : i < k
    · obtain ⟨y, hy, hr, -⟩ := BytesV.cut3 (P := Tryz.prog) (T := 45) (E := 5) Tryz.underlying45 (by kernel_rfl) hu (1024 * i) (1024 * i + 1024) (1024 * i + 1024) (by omega) (Nat.le_refl _) (by rw [List.length_drop]; omega)
      refine ⟨y, fun _ => ⟨?_, hr⟩⟩
      rw [cut_take] at hy
      have e : cut (b.drop 1024) (1024 * i) 1024 = chunk b (i + 1) := by unfold chunk cut; rw [List.drop_drop]; congr 2; omega
      rw [e] at hy
      exact hy
    · exact ⟨undef, fun h => absurd h hi⟩
  obtain ⟨f, hf⟩ := Classical.axiomOfChoice h
  exact ⟨f, hf⟩
theorem cuts_at {w : World} {u : Value} {b : List (BitVec 8)} {k : Nat} (hu : BytesV w u (b.drop 1024)) (hl : b.length = 1024 * (1 + k)) (i : Nat) (hi : i < k) :
    ∃ a c, ∀ w', (Instr.slice 45 u (some (.int .i64 ((1024 * i : Nat) : Int))) none none).run Tryz.prog w' = .ok (.slice a (1024 * k - 1024 * i) c) w' := by
  obtain ⟨y, hy, hr⟩ := BytesV.cutl (P := Tryz.prog) (T := 45) (E := 5) Tryz.underlying45 (by kernel_rfl) hu (1024 * i) (by rw [List.length_drop]; omega)
  obtain ⟨a, c, rfl, -⟩ := hy
  refine ⟨a, c, ?_⟩
  rw [List.length_drop, List.length_drop, hl, show 1024 * (1 + k) - 1024 - 1024 * i = 1024 * k - 1024 * i by omega] at hr
  exact hr
set_option maxHeartbeats 6400000 in
set_option maxRecDepth 20000 in
theorem Decode_past (v : Value) (b : List (BitVec 8)) (w : World) (hv : BytesV w v b) (hp : past b = true) :
    Calls Tryz.prog 18 #[v] w fun e w' => ∃ lv, e = .returned (.tuple #[.agg #[.int .u64 (uv (decG b)), lv], .int .i64 (decE b)]) ∧ w'.ownsRow (w.heap.size + 2) 37 10 lv (decL b).length ((decL b).flatMap Rec.cells) ∧ Below w.heap.size w w' := by
  unfold past at hp
  simp only [Bool.and_eq_true, decide_eq_true_eq] at hp
  obtain ⟨p1, p2, p3, p4⟩ := hp
  obtain ⟨W, hW⟩ : ∃ W, W = (w.alloc (.cells #[.int .u64 0, .slice none 0 0] 60)).alloc (.cells #[.int .i64 0] 42) := ⟨_, rfl⟩
  have D := Lib.hid (show Below w.heap.size w W by rw [hW]; exact gr_tr (gr_alloc w _) (gr_alloc _ _))
  have X := Lib.hid (show W.heap[w.heap.size]? = some (.cells #[.int .u64 0, .slice none 0 0] 60 (0, 0)) by rw [hW]; exact blk_below (heap_alloc_new w _) (gr_alloc _ _))
  have Y := Lib.hid (show W.heap[w.heap.size + 1]? = some (.cells #[.int .i64 0] 42 (0, 0)) by rw [hW]; have h := heap_alloc_new (w.alloc (.cells #[.int .u64 0, .slice none 0 0] 60)) (.cells #[.int .i64 0] 42); simpa using h)
  have HW := Lib.hid hW
  clear hW
  obtain ⟨k, hk⟩ : ∃ k, (num b 8 8).toNat = k := ⟨_, rfl⟩
  have hE : decE b = if fine b k then 0 else 6 := by
    unfold decE
    rw [hk] at p3 p4 ⊢
    rw [if_neg (by omega), if_neg (by rw [p2]; simp), if_neg (by omega), if_neg (by omega), if_neg (by omega)]
  have HFIN := Lib.hid (show fine b k = true → decE b = 0 ∧ decG b = num b 0 8 ∧ decL b = recsOf b k from fun h => by
    have e : decE b = 0 := by rw [hE, if_pos h]
    refine ⟨e, ?_, ?_⟩
    · unfold decG; rw [if_pos e]
    · unfold decL; rw [if_pos e, hk])
  have HBAD := Lib.hid (show fine b k = false → decE b = 6 ∧ decG b = 0#64 ∧ decL b = [] from fun h => by
    have e : decE b = 6 := by rw [hE, if_neg (by rw [h]; simp)]
    refine ⟨e, ?_, ?_⟩
    · unfold decG; rw [if_neg (by rw [e]; decide)]
    · unfold decL; rw [if_neg (by rw [e]; decide)])
  clear hE
  obtain ⟨g, hg⟩ : ∃ g, num b 0 8 = g := ⟨_, rfl⟩
  rw [hg] at HFIN
  have S := Lib.hid hv
  obtain ⟨a, c, hva, -⟩ := id hv
  rw [hk] at p3 p4
  obtain ⟨u8, s8, r8, -⟩ := BytesV.cut (P := Tryz.prog) (T := 45) (E := 5) Tryz.underlying45 (by kernel_rfl) hv 8 16 (by decide) (by omega)
  obtain ⟨u0, s0, -, r0⟩ := BytesV.cut (P := Tryz.prog) (T := 45) (E := 5) Tryz.underlying45 (by kernel_rfl) hv 0 8 (by decide) (by omega)
  obtain ⟨u16, s16, r16, -⟩ := BytesV.cut (P := Tryz.prog) (T := 45) (E := 5) Tryz.underlying45 (by kernel_rfl) hv 16 1024 (by decide) (by omega)
  obtain ⟨ut, st, rt⟩ := BytesV.cutl (P := Tryz.prog) (T := 45) (E := 5) Tryz.underlying45 (by kernel_rfl) hv 1024 (by omega)
  rw [cut_take b 8 8] at s8; rw [cut_take b 16 1008] at s16
  replace s0 : BytesV w u0 (cut b 0 8) := by rw [← cut_take b 0 8]; exact s0
  replace r0 := r0 rfl
  obtain ⟨sl, hsl⟩ := chunks_at st p4
  have CUT := Lib.hid (fun i hi => cuts_at st p4 i hi)
  obtain ⟨at_, cpt, hut, -⟩ := id st
  rw [List.length_drop, p4, show 1024 * (1 + k) - 1024 = 1024 * k by omega] at hut
  subst hut
  have SL := Lib.hid hsl
  obtain ⟨m, hm⟩ : ∃ m, num b 8 8 = m := ⟨_, rfl⟩
  have VAL := Lib.hid (fun w' (hb : Below w.heap.size w w') => value_at u8 (cut b 8 8) m w' (s8.below hb) (Nat.le_of_eq (cut_len (by omega))) hm)
  have VAL0 := Lib.hid (fun w' (hb : Below w.heap.size w w') => value_at u0 (cut b 0 8) g w' (s0.below hb) (Nat.le_of_eq (cut_len (by omega))) hg)
  have CON := Lib.hid (fun w' (hb : Below w.heap.size w w') => conNz_at u16 (cut b 16 1008) true w' (s16.below hb) p2)
  have PAR := Lib.hid (fun i (hi : i < k) Z w' (hb : Below w.heap.size w w') (hz : prs (chunk b (i + 1)) = Z) => parse_at (sl i) (chunk b (i + 1)) Z w' ((SL.out i hi).1.below hb) (by unfold chunk; exact cut_len (by omega)) hz)
  have hum : uv m = ((m.toNat : Nat) : Int) := rfl
  rw [hm] at hk
  rw [hum, hk] at VAL
  obtain ⟨L, hL⟩ : ∃ L, b.length = L := ⟨_, rfl⟩
  rw [hL] at hva p4 p1
  subst hva
  replace r8 : ∀ w', (Instr.slice 45 (.slice a L c) (some (.int .i64 8)) (some (.int .i64 16)) none).run Tryz.prog w' = .ok u8 w' := r8
  replace r16 : ∀ w', (Instr.slice 45 (.slice a L c) (some (.int .i64 16)) (some (.int .i64 1024)) none).run Tryz.prog w' = .ok u16 w' := r16
  replace r0 : ∀ w', (Instr.slice 45 (.slice a L c) none (some (.int .i64 8)) none).run Tryz.prog w' = .ok u0 w' := r0
  replace rt : ∀ w', (Instr.slice 45 (.slice a L c) (some (.int .i64 1024)) none none).run Tryz.prog w' = .ok (.slice at_ (1024 * k) cpt) w' := rt
  clear s8 s16 s0 hv hm hum hk hg p2 hsl st
  have HK := Lib.hid p3
  have hd : decide ((L : Int) < 1024) = false := decide_eq_false (by omega)
  have hd3 : ¬ ((256 : Int) < (k : Int)) := by omega
  have hw1 : IntKind.i64.wrap (k : Int) = (k : Int) := by rw [IntKind.wrap_i64]; omega
  have hw2 : IntKind.i64.wrap (1 + (k : Int)) = 1 + (k : Int) := by rw [IntKind.wrap_i64]; omega
  have hw3 : IntKind.i64.wrap (1024 * (1 + (k : Int))) = 1024 * (1 + (k : Int)) := by rw [IntKind.wrap_i64]; omega
  have hd4 : ¬ ((L : Int) < 1024 * (1 + (k : Int))) := by omega
  have hd5 : ¬ (1024 * (1 + (k : Int)) < (L : Int)) := by omega
  clear p1 p4 p3 hL
  refine callsIn_wide.1 (callsIn_of_wp_marks (F := Fence.wide) (n := 8) Tryz.func18 rfl trivial ?_)
  simp only [Tryz.ntmps18, List.size_toArray, List.length_cons, List.length_nil, Nat.reduceAdd, Nat.reduceSub, Array.replicate_succ, Array.replicate_zero, List.push_toArray, List.append_toArray, List.nil_append, List.cons_append]
  refine wpIn_wide.2 ?_
  let FT : Exit → Act → World → Prop := bodyPost Tryz.prog Tryz.f18 (fun _ _ => True)
  go_upto_region 1 with fail
  rw [← HW.out]
  clear HW
  go_upto_region 12 with (first | (go_at_call 40; go_loud (refine (VAL.out _ D.out).mono ?_; rintro e w2 ⟨rfl, rfl⟩)) | (go_at_call 41; go_loud (refine (CON.out _ D.out).mono ?_; rintro e w2 ⟨rfl, hw⟩; replace X := Lib.hid (blk_below X.out hw); replace Y := Lib.hid (blk_below Y.out hw); replace D := Lib.hid (gr_tr D.out hw); clear hw; obtain ⟨W, hW⟩ : ∃ Y, Y = w2 := ⟨_, rfl⟩; subst hW)))
  clear hd hd3 hw1 hw2 hw3 hd4 hd5 VAL CON r8 r16
  go_upto_region 14 with (first | (go_at_call 40; go_loud (refine (VAL0.out _ D.out).mono ?_; rintro e w2 ⟨rfl, rfl⟩)) | (refine wpList_store_new rfl 60 (.tmp 5) (.tmp 46) rfl #[.int .u64 (uv g), .slice none 0 0] 60 _ rfl rfl (by kernel_rfl) rfl (by kernel_rfl) ?_; intro w3 h3 hb; have Z := Lib.hid h3; have Y0 := Y; replace X := Lib.hid (blk_below X.out hb); replace Y := Lib.hid (blk_below Y.out hb); have DB := D; replace D := Lib.hid (gr_tr D.out hb); have LO := Lib.hid (show w.heap.size + 2 ≤ W.heap.size from (Array.getElem?_eq_some_iff.1 Y0.out).1); have LT := Lib.hid (show W.heap.size < w3.heap.size from (Array.getElem?_eq_some_iff.1 h3).1); clear h3 hb) | (go_at_call 43; go_loud (refine (Chunk_any _ _ _ _).mono ?_; rintro e w4 ⟨rfl, h1, h2, h3, hb⟩; have B1 := Lib.hid h1; have B2 := Lib.hid h2; have B3 := Lib.hid h3; replace Z := Lib.hid (blk_below Z.out hb); replace X := Lib.hid (blk_below X.out hb); replace Y := Lib.hid (blk_below Y.out hb); replace D := Lib.hid (gr_tr D.out hb); clear h1 h2 h3 hb)))
  clear VAL0 r0 rt DB Y0 FT
  have L4 := Lib.hid (show w.heap.size + 1 < w4.heap.size from (Array.getElem?_eq_some_iff.1 Y.out).1)
  obtain ⟨Bl, hBl⟩ : ∃ x, W.heap.size = x := ⟨_, rfl⟩
  rw [hBl] at LO LT Z ⊢
  obtain ⟨B, hB⟩ : ∃ x, w3.heap.size = x := ⟨_, rfl⟩
  rw [hB] at LT B1 B2 B3 ⊢
  clear hBl hB
  have ST := Lib.hid (show DecSt w g Bl B (.slice at_ (1024 * k) cpt) [] (.slice none 0 0) w4 from ⟨X.out, Y.out, Z.out, World.ownsRow_nil _ _ _ _, B1.out, B2.out, LO.out, LT.out, D.out⟩)
  clear X Y Z D LO LT
  refine (wpIn_wide (n := 8)).1 ?_
  refine rf_ret (F := Fence.wide) (n := 8) rfl (by omega) (gf := 61) (lb := #[.pointer (some ⟨B, 0, none⟩), .pointer (some ⟨B + 1, 0, none⟩)]) rfl trivial (enters_of Tryz.func61 (by kernel_rfl) rfl)
    (Chunk_stops 7 (by omega) k (.slice at_ (1024 * k) cpt) sl B (B + 1) w4 (by have := B3.out; omega) B3.out B1.out B2.out ⟨_, _, rfl⟩ (by have := HK.out; omega) (fun i hi => (SL.out i hi).2) CUT.out)
    (fun h1 h2 => ⟨h2.1.trans h1.1, h2.2.trans h1.2⟩) (fun W1 l o o' hl _ _ _ => ⟨World.putObj_heap_other (by have := B3.out; omega), World.putObj_heap_other (by have := B3.out; omega)⟩) (Below.refl _ _) (fun _ => rfl)
    (fun pre X => ∃ lv, DecSt w g Bl B (.slice at_ (1024 * k) cpt) (pre.map fun x => rdR (chunk b (x.val + 1))) lv X ∧ ∀ x ∈ pre, prs (chunk b (x.val + 1)) = true)
    (fun pre X => X.heap[w.heap.size]? = some (.cells #[.int .u64 0, .slice none 0 0] 60 (0, 0)) ∧ X.heap[w.heap.size + 1]? = some (.cells #[.int .i64 6] 42 (0, 0)) ∧ Below w.heap.size w X ∧ fine b k = false)
    ?hI ?hIx ⟨_, ST.out, by simp⟩ ?ab ?done ?stop
  case hI =>
    rintro s X Y row ⟨lv, h1, h2⟩ hg hr
    exact ⟨lv, h1.grown hg B3.out hr, h2⟩
  case hIx =>
    rintro s X Y row ⟨h1, h2, h3, h4⟩ hg hr
    have := L4.out
    exact ⟨(hg.block _ (Array.getElem?_eq_some_iff.1 h1).1 (fun e => by have := (hr _ e.symm).1; omega)).trans h1, (hg.block _ (Array.getElem?_eq_some_iff.1 h2).1 (fun e => by have := (hr _ e.symm).1; omega)).trans h2, h3.grown hg h3.size (fun j hj => by have := (hr _ hj).1; omega), h4⟩
  case ab =>
    apply Exists.intro
    apply And.intro
    case left =>
      intro l x W K hK
      gi_wp2
      exact hK
    case right =>
      rintro l pre x X ⟨lv, hR, hall⟩ hlt
      have RR := Lib.hid hR
      have ALL := Lib.hid hall
      have HLT := Lib.hid (show (pre.map fun x => rdR (chunk b (x.val + 1))).length < 256 by rw [List.length_map]; have := HK.out; omega)
      obtain ⟨rs, hrs⟩ : ∃ rs, (pre.map fun x => rdR (chunk b (x.val + 1))) = rs := ⟨_, rfl⟩
      rw [hrs] at RR HLT
      obtain ⟨Z, hZ⟩ : ∃ Z, prs (chunk b (x.val + 1)) = Z := ⟨_, rfl⟩
      have PARX := Lib.hid (fun w' (hb : Below w.heap.size w w') => PAR.out x.val x.isLt Z w' hb hZ)
      obtain ⟨u, hu⟩ : ∃ u, sl x.val = u := ⟨_, rfl⟩
      obtain ⟨r, hr⟩ : ∃ r, rdR (chunk b (x.val + 1)) = r := ⟨_, rfl⟩
      rw [hr] at PARX
      rw [hu] at PARX ⊢
      obtain ⟨x0, x1, rf, sc, po, ct, qu, sv, sb, ad⟩ := r
      have hcr : (Rec.mk x0 x1 rf sc po ct qu sv sb ad).cells.toArray = #[.int .u8 (uv x0), .int .u8 (uv x1), .bool rf, .bool sc, .int .u16 (uv po), .int .u16 (uv ct), .int .u16 (uv qu), .string (strOf sv), .string (strOf sb), .string (strOf ad)] := rfl
      rw [hcr] at PARX
      have HRS := Lib.hid hrs; have HZ := Lib.hid hZ; have HR := Lib.hid hr
      clear hR hall hlt hrs hZ hu hr hcr SL CUT PAR S B1 B2
      cases Z
      · gi_wp2_with (first | (refine ⟨trivial, ?_⟩; gi_at_call 44; go_loud (refine CallsIn.inRound l (callsIn_wide.2 ((PARX.out _ RR.out.bel).mono ?_)); rintro e w5 ⟨rfl, hw⟩; have R5 := Lib.hid (RR.out.below hw); have K5 := Lib.hid (ko_below hw); clear hw)) | (refine wpListIn_store_new rfl 37 (.tmp 7) (.tmp 54) rfl #[.int .u8 (uv x0), .int .u8 (uv x1), .bool rf, .bool sc, .int .u16 (uv po), .int .u16 (uv ct), .int .u16 (uv qu), .string (strOf sv), .string (strOf sb), .string (strOf ad)] 37 _ rfl rfl (by kernel_rfl) rfl (by simp [Value.oneCell']) ?_; intro w6 h6 hb; have Z6 := Lib.hid h6; have R6 := Lib.hid (R5.out.below hb); have K6 := Lib.hid (K5.out.trans (ko_below hb)); have q6 : w6.cell? ⟨Bl, 1, none⟩ = some lv := (cell_of_row _ _ 1 _ _ _ R6.out.l).trans rfl; clear h6 hb) | (refine wpListIn_store_row rfl 60 (.tmp 2) _ rfl w.heap.size #[.int .u64 0, .slice none 0 0] rfl rfl 60 _ R6.out.x (by kernel_rfl) rfl (by kernel_rfl) ?_; obtain ⟨W7, hW7⟩ : ∃ Y, Y = w6.setRow w.heap.size #[.int .u64 0, .slice none 0 0] := ⟨_, rfl⟩; rw [← hW7]; have X7 := Lib.hid (show W7.heap[w.heap.size]? = some (.cells #[.int .u64 0, .slice none 0 0] 60 (0, 0)) by rw [hW7]; exact setRow_heap _ _ _ _ _ _ R6.out.x); have Y7 := Lib.hid (show W7.heap[w.heap.size + 1]? = some (.cells #[.int .i64 0] 42 (0, 0)) by rw [hW7, setRow_other _ _ _ _ (by omega)]; exact R6.out.y); have D7 := Lib.hid (show Below w.heap.size w W7 by rw [hW7]; exact below_setRow R6.out.bel (Nat.le_refl _) _); have K7 := Lib.hid (show KeepsOthers X W7 by rw [hW7]; exact K6.out.trans (ko_chg (Chg.setRow (B := fun j => j = w.heap.size) w6 rfl _) (fun j hj o ho => by subst hj; rw [R6.out.x] at ho; cases ho; rfl))); clear hW7; have c7 : W7.cell? ⟨w.heap.size + 1, 0, none⟩ = some (.int .i64 0) := (cell_of_row _ _ 0 _ _ _ Y7.out).trans rfl; have z7 := frozen_of_row _ _ 0 _ _ Y7.out))
        refine ⟨K7.out.trans (KeepsOthers.setCell _ _ _), rfl, ?_, heap_setCell_same _ _ _ _ _ _ Y7.out, D7.out.setCell (p := ⟨w.heap.size + 1, 0, none⟩) (by simp) _, fine_no b x.val k x.isLt HZ.out⟩
        rw [heap_setCell_other _ _ _ _ (show w.heap.size ≠ w.heap.size + 1 by omega)]; exact X7.out
      · gi_wp2_with (first | (refine ⟨trivial, ?_⟩; gi_at_call 44; go_loud (refine CallsIn.inRound l (callsIn_wide.2 ((PARX.out _ RR.out.bel).mono ?_)); rintro e w5 ⟨rfl, hw⟩; have R5 := Lib.hid (RR.out.below hw); have K5 := Lib.hid (ko_below hw); clear hw)) | (refine wpListIn_store_new rfl 37 (.tmp 7) (.tmp 54) rfl #[.int .u8 (uv x0), .int .u8 (uv x1), .bool rf, .bool sc, .int .u16 (uv po), .int .u16 (uv ct), .int .u16 (uv qu), .string (strOf sv), .string (strOf sb), .string (strOf ad)] 37 _ rfl rfl (by kernel_rfl) rfl (by simp [Value.oneCell']) ?_; intro w6 h6 hb; have Z6 := Lib.hid h6; have R6 := Lib.hid (R5.out.below hb); have K6 := Lib.hid (K5.out.trans (ko_below hb)); have q6 : w6.cell? ⟨Bl, 1, none⟩ = some lv := (cell_of_row _ _ 1 _ _ _ R6.out.l).trans rfl; clear h6 hb) | (refine wpListIn_load_row rfl 37 (.tmp 7) rfl w5.heap.size rfl 37 #[.int .u8 (uv x0), .int .u8 (uv x1), .bool rf, .bool sc, .int .u16 (uv po), .int .u16 (uv ct), .int .u16 (uv qu), .string (strOf sv), .string (strOf sb), .string (strOf ad)] (0, 0) _ Z6.out Tryz.underlying37 rfl (by kernel_rfl) ?_) | (gi_at_builtin; go_loud (refine app_law_in recsOk rfl (.tmp 60) (.tmp 62) rfl (w.heap.size + 2) lv rs.length (rs.flatMap Dsc.Rec.cells) rfl (own_below R6.out.own (gr_alloc _ _)) ⟨w6.heap.size, 0, none⟩ 1 1 (Rec.mk x0 x1 rf sc po ct qu sv sb ad).cells rfl (Row.lit w6 #[.int .u8 (uv x0), .int .u8 (uv x1), .bool rf, .bool sc, .int .u16 (uv po), .int .u16 (uv ct), .int .u16 (uv qu), .string (strOf sv), .string (strOf sb), .string (strOf ad)] 37 (0, 0)) rfl (by simp [Dsc.Rec.cells, Value.oneCell']) (by have := HLT.out; omega) (by have := HLT.out; omega) (by have := R6.out.bel.size; have := (Array.getElem?_eq_some_iff.1 R6.out.y).1; simp; omega) ?_; intro v7 w7 ho hg ha; obtain ⟨al7, cl7, rfl⟩ := own_shape ho; have O7 := Lib.hid ho; have G7 := Lib.hid hg; have hb7 : w7.heap[Bl]? = some (.cells #[.int .u64 (uv g), lv] 60 (0, 0)) := (hg.block Bl (Array.getElem?_eq_some_iff.1 (R6.out.below (gr_alloc _ _)).l).1 (fun e => own_apartB R6.out.own R6.out.l (by decide) e.symm)).trans (R6.out.below (gr_alloc _ _)).l; have p7 : w7.cell? ⟨Bl, 1, none⟩ = some lv := (cell_of_row _ _ 1 _ _ _ hb7).trans rfl; have z7 := frozen_of_row _ _ 1 _ _ hb7; clear ho hg ha hb7)))
        have hM := DecSt.more (r := Rec.mk x0 x1 rf sc po ct qu sv sb ad) (R6.out.below (gr_alloc w6 (.cells #[.int .u8 (uv x0), .int .u8 (uv x1), .bool rf, .bool sc, .int .u16 (uv po), .int .u16 (uv ct), .int .u16 (uv qu), .string (strOf sv), .string (strOf sb), .string (strOf ad)] 37))) O7.out G7.out rfl
        refine ⟨(K6.out.trans (KeepsOthers.alloc _ _)).trans hM.2.1, ⟨hM.1.b1.trans RR.out.b1.symm, hM.1.b2.trans RR.out.b2.symm⟩, .slice al7 (rs.length + 1) cl7, ?_, ?_⟩
        · rw [List.map_append, HRS.out]
          have e : ([x].map fun x => rdR (chunk b (x.val + 1))) = [Rec.mk x0 x1 rf sc po ct qu sv sb ad] := by rw [← HR.out]; rfl
          rw [e]
          exact hM.1
        · intro y hy
          rcases List.mem_append.1 hy with hy | hy
          · exact ALL.out y hy
          · rw [List.mem_singleton.1 hy]; exact HZ.out
  case done =>
    rintro D xs X hD hS ⟨lv, hR, hall⟩ hK
    have e1 : (xs.map fun x => rdR (chunk b (x.val + 1))) = recsOf b k := by
      unfold recsOf
      have hS' : xs.map (·.val) = List.range k := hS
      rw [← hS', List.map_map]; rfl
    have e2 : fine b k = true := by
      unfold fine
      have hS' : xs.map (·.val) = List.range k := hS
      rw [← hS', List.all_map, List.all_eq_true]
      exact hall
    obtain ⟨f1, f2, f3⟩ := HFIN.out e2
    rw [e1] at hR
    obtain ⟨rs, hrs⟩ : ∃ rs, recsOf b k = rs := ⟨_, rfl⟩
    rw [hrs] at hR f3
    have F1 := Lib.hid f1; have F2 := Lib.hid f2; have F3 := Lib.hid f3
    obtain ⟨al, cl, rfl⟩ := own_shape hR.own
    have RR := Lib.hid hR
    have HD := Lib.hid hD; have HK2 := Lib.hid hK
    clear f1 f2 f3 e1 e2 hrs hall hS hR hD hK SL CUT PAR S B1 B2 B3 HFIN HBAD ST
    go_wp2_with (first
      | (refine wpList_load_row rfl 60 (.tmp 5) rfl Bl rfl 60 #[.int .u64 (uv g), .slice al rs.length cl] (0, 0) _ RR.out.l Tryz.underlying60 rfl (by kernel_rfl) ?_)
      | (refine wpList_store_row rfl 60 (.tmp 2) _ rfl w.heap.size #[.int .u64 (uv g), .slice al rs.length cl] rfl rfl 60 _ RR.out.x (by kernel_rfl) rfl (by simp [Value.oneCell']) ?_; obtain ⟨W7, hW7⟩ : ∃ Y, Y = X.setRow w.heap.size #[.int .u64 (uv g), .slice al rs.length cl] := ⟨_, rfl⟩; rw [← hW7]; have C7 := Lib.hid (show Chg (fun j => j = w.heap.size ∨ j = w.heap.size + 1) X W7 by rw [hW7]; exact Chg.setRow (B := fun j => j = w.heap.size ∨ j = w.heap.size + 1) X (.inl rfl) _); have X7 := Lib.hid (show W7.heap[w.heap.size]? = some (.cells #[.int .u64 (uv g), .slice al rs.length cl] 60 (0, 0)) by rw [hW7]; exact setRow_heap _ _ _ _ _ _ RR.out.x); have Y7 := Lib.hid (show W7.heap[w.heap.size + 1]? = some (.cells #[.int .i64 0] 42 (0, 0)) by rw [hW7, setRow_other _ _ _ _ (by omega)]; exact RR.out.y); clear hW7; have c7 : W7.cell? ⟨w.heap.size + 1, 0, none⟩ = some (.int .i64 0) := (cell_of_row _ _ 0 _ _ _ Y7.out).trans rfl; have z7 := frozen_of_row _ _ 0 _ _ Y7.out))
    obtain ⟨V, hV⟩ : ∃ V, V = W7.setCell ⟨w.heap.size + 1, 0, none⟩ (.int .i64 0) := ⟨_, rfl⟩
    have CV : Chg (fun j => j = w.heap.size ∨ j = w.heap.size + 1) X V := by rw [hV]; exact C7.out.trans (Chg.setCell (B := fun j => j = w.heap.size ∨ j = w.heap.size + 1) (p := ⟨w.heap.size + 1, 0, none⟩) _ (.inr rfl) _)
    have hd1 : w.heap.size ≠ D := by have := L4.out; have := HD.out; omega
    have hd2 : w.heap.size + 1 ≠ D := by have := L4.out; have := HD.out; omega
    have VD : V.heap[D]? = some (.deferred (some [])) := CV.blk HK2.out (by rintro (e | e) <;> omega)
    have VX : (V.putObj D (.deferred none)).heap[w.heap.size]? = some (.cells #[.int .u64 (uv g), .slice al rs.length cl] 60 (0, 0)) := (World.putObj_heap_other hd1).trans (by rw [hV, heap_setCell_other _ _ _ _ (show w.heap.size ≠ w.heap.size + 1 by omega)]; exact X7.out)
    have VY : (V.putObj D (.deferred none)).heap[w.heap.size + 1]? = some (.cells #[.int .i64 0] 42 (0, 0)) := (World.putObj_heap_other hd2).trans (by rw [hV]; exact heap_setCell_same _ _ _ _ _ _ Y7.out)
    have VC : Chg (fun j => w.heap.size ≤ j ∧ (j = w.heap.size ∨ j = w.heap.size + 1 ∨ j = D)) X (V.putObj D (.deferred none)) := (CV.mono (fun j hj => ⟨by omega, hj.imp_right .inl⟩)).trans (Chg.of_grown (grownBy_putObj' V D _) (fun j e => by cases e; exact ⟨by have := L4.out; have := HD.out; omega, .inr (.inr rfl)⟩))
    have VO := own_chg RR.out.own VC (fun j hj hB => by
      have h1 := (RR.out.own.lt j hj).1
      rcases hB.2 with e | e | e
      · omega
      · omega
      · subst e
        obtain ⟨o, e1, e2⟩ := own_cells RR.out.own hj
        rw [HK2.out] at e1; cases e1; cases e2)
    have VB : Below w.heap.size w (V.putObj D (.deferred none)) := RR.out.bel.trans (VC.below (fun j hj => hj.1) RR.out.bel.size)
    rw [← hV]
    refine ⟨by simp, .inl ⟨_, _, rfl, run_takeDeferred VD, ?_⟩⟩
    refine ⟨.tuple #[.agg #[.int .u64 (uv g), .slice al rs.length cl], .int .i64 0], results_row_cell rfl _ _ w.heap.size 60 _ (0, 0) _ (w.heap.size + 1) _ 42 (0, 0) _ rfl VX Tryz.underlying60 rfl (by kernel_rfl) rfl VY Tryz.underlying42 rfl, .slice al rs.length cl, ?_, ?_, VB⟩
    · rw [F1.out, F2.out]
    · rw [F3.out]; exact VO
  case stop =>
    rintro D pre X hD hS ⟨h1, h2, h3, h4⟩ hK
    obtain ⟨f1, f2, f3⟩ := HBAD.out h4
    have hd1 : w.heap.size ≠ D := by have := L4.out; omega
    have hd2 : w.heap.size + 1 ≠ D := by have := L4.out; omega
    refine ⟨by simp, .inl ⟨_, _, rfl, run_takeDeferred hK, ?_⟩⟩
    have V1 : (X.putObj D (.deferred none)).heap[w.heap.size]? = some (.cells #[.int .u64 0, .slice none 0 0] 60 (0, 0)) := (World.putObj_heap_other hd1).trans h1
    have V2 : (X.putObj D (.deferred none)).heap[w.heap.size + 1]? = some (.cells #[.int .i64 6] 42 (0, 0)) := (World.putObj_heap_other hd2).trans h2
    exact ⟨.tuple #[.agg #[.int .u64 0, .slice none 0 0], .int .i64 6], results_row_cell rfl _ _ w.heap.size 60 #[.int .u64 0, .slice none 0 0] (0, 0) _ (w.heap.size + 1) _ 42 (0, 0) _ rfl V1 Tryz.underlying60 rfl (by kernel_rfl) rfl V2 Tryz.underlying42 rfl, .slice none 0 0, by rw [f1, f2]; rfl, by rw [f3]; exact World.ownsRow_nil _ _ _ _, h3.grown (grownBy_putObj' X D _) h3.size (fun j e => by cases e; have := L4.out; omega)⟩
end Go.Proofs.YtjcgdenkmmgmfaaGreatDoor
