/- Discovery: the law file's known(). Printed by gendscw.py. -/
import Derived.Test.YtjcgdenkmmgmfaaGreatDoorDscV
import Derived.Test.YtjcgdenkmmgmfaaGreatDoorDscI
namespace Go.Proofs.YtjcgdenkmmgmfaaGreatDoor
open Go.RowKit Go.Shelf Dsc
set_option linter.unusedVariables false
set_option linter.unusedSimpArgs false
attribute [local go_sem] Oper.semAt_some
theorem SliceV.nilV {α : Type} {f : α → List Value} (w : World) : SliceV w f (.slice none 0 0) [] := ⟨none, 0, rfl, fun _ => rfl, by simp, by simp, .inl rfl⟩
theorem Keep.chgK {B C : Nat → Prop} {w x x' : World} (h : Keep B w x) (c : Chg C x x') (hr : ∀ k, C k → B k ∨ w.heap.size ≤ k) : Keep B w x' := by
  obtain ⟨y, rfl⟩ := h
  refine ⟨⟨x', Nat.le_trans y.size c.size, fun k hk hn => ?_⟩, rfl⟩
  refine (c.block k (Nat.lt_of_lt_of_le hk y.size) (fun e => ?_)).trans (y.block k hk hn)
  rcases hr k e with h | h
  · exact hn h
  · omega
theorem one_host (w : World) : SliceV (w.alloc (.cells #[.string ⟨#[104]⟩] 9)) strC (.slice (some ⟨w.heap.size, 0, none⟩) 1 1) [[104#8]] :=
  ⟨some ⟨w.heap.size, 0, none⟩, 1, rfl, by simp, by simp, by simp, Row.lit w #[.string ⟨#[104]⟩] 9 (0, 0)⟩
theorem one_rec (w : World) : SliceV (w.alloc (.cells #[.int .u8 3, .int .u8 0, .bool false, .bool false, .int .u16 0, .int .u16 65535, .int .u16 32, .string ⟨#[]⟩, .string ⟨#[115]⟩, .string ⟨#[97]⟩] 37)) Dsc.Rec.cells (.slice (some ⟨w.heap.size, 0, none⟩) 1 1) [kr] := by
  have e : [kr].flatMap Dsc.Rec.cells = (#[.int .u8 3, .int .u8 0, .bool false, .bool false, .int .u16 0, .int .u16 65535, .int .u16 32, .string ⟨#[]⟩, .string ⟨#[115]⟩, .string ⟨#[97]⟩]).toList := by kernel_rfl
  exact ⟨some ⟨w.heap.size, 0, none⟩, 1, rfl, by simp, by simp, by simp, by rw [e]; exact Row.lit w #[.int .u8 3, .int .u8 0, .bool false, .bool false, .int .u16 0, .int .u16 65535, .int .u16 32, .string ⟨#[]⟩, .string ⟨#[115]⟩, .string ⟨#[97]⟩] 37 (0, 0)⟩
theorem kr_fit : kr.Fit := ⟨by decide, by decide, by decide⟩
theorem kr_cells : kr.cells.toArray = #[.int .u8 3, .int .u8 0, .bool false, .bool false, .int .u16 0, .int .u16 65535, .int .u16 32, .string ⟨#[]⟩, .string ⟨#[115]⟩, .string ⟨#[97]⟩] := by kernel_rfl
theorem str_h : strOf [104#8] = ⟨#[104]⟩ := by kernel_rfl
theorem str_g : strOf [103#8] = ⟨#[103]⟩ := by kernel_rfl
theorem own_off {w : World} {base : Nat} {e : TypeId} {size : Nat} {v : Value} {n : Nat} {xs : List Value} (h : w.ownsRow base e size v n xs) : ∀ g o m c, v = .slice (some ⟨g, o, none⟩) m c → g < w.heap.size := by
  intro g o m c e
  obtain ⟨-, h⟩ := h
  rcases h with ⟨rfl, _⟩ | ⟨b, cap, cur, rfl, _, hh, _⟩
  · cases e
  · cases e; exact (Array.getElem?_eq_some_iff.1 hh).1
theorem k_shortG : decG (List.replicate 1023 0#8) = 0#64 ∧ decL (List.replicate 1023 0#8) = [] := by
  unfold decG decL
  rw [k_short]
  exact ⟨rfl, rfl⟩
theorem wpList_load_rowG {P : Program} {ops : Array Oper} {rest : List Oper} {o : Oper} {a : Act} {w : World} {Q : Exit → Act → World → Prop} (hw : Region.wanted o (yielded ops a.tmps) = true) (ty : TypeId) (x : Operand) (ho : o.op = .load ty x)
    (g : Nat) (hx : a.eval x = .pointer (some ⟨g, 0, none⟩)) (t : TypeId) (cs : Array Value) (fr : Nat × Nat) (d : TypeDesc) (hg : w.heap[g]? = some (.cells cs t fr))
    (hu : P.underlying ty = some d) (hd : (match d with | .struct _ | .array _ _ => true | _ => false) = true) (hi : (P.info? ty).map (·.size) = some cs.size)
    (h : wpList P ops Q rest (a.put o.dst (.agg cs)) w) : wpList P ops Q (o :: rest) a w :=
  wpList_step fun K hK => by rw [if_pos hw]; exact wp_load_row ty x ho g hx t cs fr d hg hu hd hi (hK _ _ h)
set_option maxHeartbeats 6400000 in
set_option maxRecDepth 20000 in
theorem known_any (w : World) : Calls Tryz.prog 6 #[] w fun e w' => e = .returned (.bool true) ∧ Below w.heap.size w w' := by
  obtain ⟨KB, hKB⟩ : ∃ l, logR 258#64 [] = l := ⟨_, rfl⟩
  have ENC := Lib.hid (show ∀ w, Calls Tryz.prog 17 #[.agg #[.int .u64 258, .slice none 0 0]] w fun e w' => ∃ u, e = .returned (.tuple #[u, .int .i64 0]) ∧ w'.ownsRow w.heap.size 5 1 u KB.length (by8 KB) ∧ Below w.heap.size w w' from fun w => Encode_at 258#64 (.slice none 0 0) [] 0 KB w (SliceV.nilV w) (by simp) rfl hKB)
  obtain ⟨L0, hL0⟩ : ∃ l, List.replicate 1024 0#8 = l := ⟨_, rfl⟩
  have KEQ := Lib.hid (show (L0.set 0 2#8).set 1 1#8 = KB by rw [← hKB, ← hL0]; exact k_log.symm)
  have HL0 := Lib.hid hL0
  clear hKB hL0
  go_enter Tryz.func6, Tryz.ntmps6
  go_upto_region 3 with (first | (go_at_call 17; go_loud (refine (ENC.out _).mono ?_; rintro e w1 ⟨u1, rfl, ho, hb⟩; have U1 := Lib.hid (BytesV.of_own ho); have D1 := Lib.hid hb; have NU := Lib.hid (own_off ho); clear ho hb)) | (refine make_law bytesOk rfl _ _ rfl w1.heap.size .i64 .i64 1024 1024 1024 rfl rfl rfl rfl (by omega) (by omega) (Nat.le_refl _) ?_; intro w2 hown hgrow; rw [by8_made, HL0.out] at hown; have O := Lib.hid hown; have B1 := Lib.hid ((Below.refl w1.heap.size w1).grown hgrow (Nat.le_refl _) (by intro k hk; cases hk)); clear hown hgrow))
  obtain ⟨G, hG⟩ : ∃ G, w1.heap.size = G := ⟨_, rfl⟩
  have HG := Lib.hid hG
  rw [hG] at O ⊢
  clear hG
  have O0 : Hid (OwnN 1024 w2 G G 1024 L0) := Lib.hid O.out
  clear O ENC
  obtain ⟨y0, g0, -⟩ := O0.out.at 0 (by decide)
  have f0 := World.ownsRow.frozenAt O0.out 0
  have O1 : Hid (OwnN 1024 (w2.setCell ⟨G, 0, none⟩ (.int .u8 2)) G G 1024 (L0.set 0 2#8)) := Lib.hid (O0.out.set 0 2#8)
  obtain ⟨y1, g1, -⟩ := O1.out.at 1 (by decide)
  have f1 := World.ownsRow.frozenAt O1.out 1
  have O2 : Hid (OwnN 1024 ((w2.setCell ⟨G, 0, none⟩ (.int .u8 2)).setCell ⟨G, 1, none⟩ (.int .u8 1)) G G 1024 ((L0.set 0 2#8).set 1 1#8)) := Lib.hid (O1.out.set 1 1#8)
  go_upto_region 4 with fail
  obtain ⟨w3, hw3⟩ : ∃ x, x = (w2.setCell ⟨G, 0, none⟩ (.int .u8 2)).setCell ⟨G, 1, none⟩ (.int .u8 1) := ⟨_, rfl⟩
  rw [← hw3]
  have D3 := Lib.hid (show Below w.heap.size w w3 by
    rw [hw3]
    have hG : w.heap.size ≤ G := by rw [← HG.out]; exact D1.out.size
    exact ((gr_tr D1.out B1.out).setCell (p := ⟨G, 0, none⟩) hG _).setCell (p := ⟨G, 1, none⟩) hG _)
  have UB := Lib.hid (U1.out.below (show Below w1.heap.size w1 w3 by
    rw [hw3]
    exact (B1.out.setCell (p := ⟨G, 0, none⟩) (Nat.le_of_eq HG.out) _).setCell (p := ⟨G, 1, none⟩) (Nat.le_of_eq HG.out) _))
  rw [← hw3, KEQ.out] at O2
  have UW := Lib.hid O2.out.bytes
  have LG := Lib.hid (show G < w3.heap.size from O2.out.lt.2)
  have H13 := Lib.hid (show w1.heap.size ≤ w3.heap.size by have := LG.out; have := HG.out; omega)
  clear g0 g1 f0 f1 O0 O1 O2 U1 D1 B1 HG KEQ hw3
  go_upto_region 6 with (refine wpList_store_new rfl 37 (.tmp 4) (.tmp 26) rfl #[.int .u8 3, .int .u8 0, .bool false, .bool false, .int .u16 0, .int .u16 65535, .int .u16 32, .string ⟨#[]⟩, .string ⟨#[115]⟩, .string ⟨#[97]⟩] 37 _ rfl rfl (by kernel_rfl) rfl (by kernel_rfl) ?_; intro w4 h4 hb; have R4 := Lib.hid h4; have B4 := Lib.hid hb; clear h4 hb)
  obtain ⟨W, hW⟩ : ∃ x, x = w4.alloc (.cells #[.slice none 0 0, .int .u64 0] 29) := ⟨_, rfl⟩
  rw [← hW]
  have DIR0 := Lib.hid (show DirAt W w4.heap.size [] 0#64 (.slice none 0 0) [] from ⟨by rw [hW]; exact heap_alloc_new w4 _, World.ownsRow_nil _ _ _ _, rfl, by intro i e hv h; simp at h⟩)
  have BW : Below w4.heap.size w4 W := by rw [hW]; exact gr_alloc w4 _
  have DW := Lib.hid (gr_tr (gr_tr D3.out B4.out) BW)
  have RW := Lib.hid (blk_below R4.out BW)
  have UB1 := Lib.hid ((UB.out.below B4.out).below BW)
  have UW1 := Lib.hid ((UW.out.below B4.out).below BW)
  have NE := Lib.hid (show ¬ (w3.heap.size = w4.heap.size) from fun e => by have := (Array.getElem?_eq_some_iff.1 R4.out).1; omega)
  have PG := Lib.hid (show w.heap.size ≤ w4.heap.size from (gr_tr D3.out B4.out).size)
  have L13 := Lib.hid (show w1.heap.size ≤ w4.heap.size from Nat.le_trans H13.out B4.out.size)
  have L24 := Lib.hid (show G < w4.heap.size from Nat.lt_of_lt_of_le LG.out B4.out.size)
  have NUB := Lib.hid (show Off (DirB w4.heap.size (.slice none 0 0)) u1 from fun g o n c h e => by
    have h1 := NU.out g o n c h
    have := L13.out
    rcases e with e | e
    · omega
    · cases e)
  have NUW := Lib.hid (show Off (DirB w4.heap.size (.slice none 0 0)) (.slice (some ⟨G, 0, none⟩) 1024 1024) from fun g o n c h e => by
    have := L24.out
    cases h
    rcases e with e | e
    · omega
    · cases e)
  clear hW BW D3 B4 R4 UB UW L13 L24 LG H13 NU
  obtain ⟨P, hP⟩ : ∃ P, w4.heap.size = P := ⟨_, rfl⟩
  rw [hP] at DIR0 NE PG NUB NUW ⊢
  obtain ⟨R, hR⟩ : ∃ R, w3.heap.size = R := ⟨_, rfl⟩
  rw [hR] at RW NE ⊢
  clear hP hR
  have ADD1 := Lib.hid (fun v w hd hv => Add_ok P [] 0#64 (.slice none 0 0) [] kr v [[104#8]] w hd (by decide) kr_fit hv (by simp) k_add1)
  have ADD2 := Lib.hid (fun g lv hvs w hd => Add_no P [⟨kr, [[104#8]]⟩] g lv hvs kr (.slice none 0 0) [] w hd (by decide) kr_fit (SliceV.nilV w) (by simp) 11 k_add2 (by decide))
  rw [kr_cells] at ADD1 ADD2
  refine wp_region_planW (fun k => k = P) [(true, 0), (true, 3), (false, 1), (false, 2), (false, 4), (true, 5), (true, 6)] (by kernel_rfl) (by kernel_rfl) (by intro c a d v w h; cases d <;> exact h) ?_
  intro W1 K1 C1
  refine wpS_load_rowM rfl rfl 37 (.tmp 4) rfl R rfl 37 #[.int .u8 3, .int .u8 0, .bool false, .bool false, .int .u16 0, .int .u16 65535, .int .u16 32, .string ⟨#[]⟩, .string ⟨#[115]⟩, .string ⟨#[97]⟩] (0, 0) _ (fun x hx => Keep.blkB hx RW.out NE.out) Tryz.underlying37 rfl (by kernel_rfl) ?_
  refine wpS_load_rowM rfl rfl 37 (.tmp 4) rfl R rfl 37 #[.int .u8 3, .int .u8 0, .bool false, .bool false, .int .u16 0, .int .u16 65535, .int .u16 32, .string ⟨#[]⟩, .string ⟨#[115]⟩, .string ⟨#[97]⟩] (0, 0) _ (fun x hx => Keep.blkB hx RW.out NE.out) Tryz.underlying37 rfl (by kernel_rfl) ?_
  refine wpS_chain rfl ?_
  go_wp2
  refine ⟨K1.out.alloc _, ?_⟩
  refine wpS_chain rfl ?_
  go_wp2_with (go_at_call 11; go_loud (refine (ADD1.out _ _ ((DIR0.out.below C1.out).below (gr_alloc _ _)) (one_host W1)).mono ?_; rintro e w5 ⟨rfl, lv, hv, h1, -, -, h4⟩; have DIR1 := Lib.hid h1; have C5 := Lib.hid ((Chg.of_below (B := DirB P (.slice none 0 0)) (gr_tr C1.out (gr_alloc _ _))).trans h4); have K5 := Lib.hid ((K1.out.alloc _).chgK h4 (fun k hk => by rcases hk with e | e; exact .inl e; cases e)); clear h1 h4))
  refine ⟨K5.out, ?_⟩
  refine wpS_chain rfl ?_
  go_wp2_with (go_at_call 11; go_loud (refine (ADD2.out _ _ _ _ DIR1.out).mono ?_; rintro e w6 ⟨rfl, hb⟩; have DIR2 := Lib.hid (DIR1.out.below hb); have C6 := Lib.hid (C5.out.trans (Chg.of_below hb)); have K6 := Lib.hid (K5.out.below hb); clear hb))
  refine ⟨K6.out, ?_⟩
  repeat (refine wpS_firm rfl (fun K hK => ?_); simp only [Keep]; go_simp; refine hK _ ?_; clear hK K)
  unfold wpS
  have R6 := Lib.hid (K6.out.blkB RW.out NE.out)
  have U6 := Lib.hid (BytesV.chg UB1.out C6.out NUB.out)
  have V6 := Lib.hid (BytesV.chg UW1.out C6.out NUW.out)
  have D6 := Lib.hid (show Below w.heap.size w w6 from DW.out.trans (C6.out.below (fun k hk => by rcases hk with e | e; (have := PG.out; omega); cases e) DW.out.size))
  clear K1 C1 K5 C5 K6 C6 DIR0 DIR1 RW UB1 UW1 DW ADD1 ADD2 NUB NUW NE
  obtain ⟨s1, s2⟩ := k_see1
  obtain ⟨s3, s4⟩ := k_see2
  have SEE1 := Lib.hid (fun lv hvs w hd => Seen_at P [⟨kr, [[104#8]]⟩] (0#64 + 1#64) lv hvs [104#8] 0 [kr] w hd (by decide) (by decide) s1 s2)
  have SEE2 := Lib.hid (fun lv hvs w hd => Seen_at P [⟨kr, [[104#8]]⟩] (0#64 + 1#64) lv hvs [103#8] 0 [] w hd (by decide) (by decide) s3 s4)
  clear s1 s2 s3 s4
  rw [str_h] at SEE1
  rw [str_g] at SEE2
  go_upto_region 8 with (go_at_call 8; go_loud (refine (SEE1.out _ _ _ DIR2.out).mono ?_; rintro e w7 ⟨u7, rfl, ho, hb⟩; have S7 := Lib.hid (SliceV.of_own (f := Dsc.Rec.cells) (k := 10) (by decide) (fun _ => rfl) (xs := [kr]) ho); obtain ⟨a7, c7, rfl⟩ := own_shape ho; have DIR7 := Lib.hid (DIR2.out.below hb); have R7 := Lib.hid (blk_below R6.out hb); have U7 := Lib.hid (U6.out.below hb); have V7 := Lib.hid (V6.out.below hb); have D7 := Lib.hid (gr_tr D6.out hb); clear ho hb))
  go_upto_region 9 with (go_at_call 8; go_loud (refine (SEE2.out _ _ _ DIR7.out).mono ?_; rintro e w8 ⟨u8, rfl, ho, hb⟩; obtain ⟨a8, c8, rfl⟩ := own_shape ho; have S8 := Lib.hid (S7.out.below hb); have DIR8 := Lib.hid (DIR7.out.below hb); have R8 := Lib.hid (blk_below R7.out hb); have U8 := Lib.hid (U7.out.below hb); have V8 := Lib.hid (V7.out.below hb); have D8 := Lib.hid (gr_tr D7.out hb); clear ho hb))
  obtain ⟨L9, hL9⟩ : ∃ l, List.replicate 1023 0#8 = l := ⟨_, rfl⟩
  have DEC9 := Lib.hid (show ∀ v w, BytesV w v L9 → Calls Tryz.prog 18 #[v] w fun e w' => ∃ lv, e = .returned (.tuple #[.agg #[.int .u64 0, lv], .int .i64 4]) ∧ w'.ownsRow (w.heap.size + 2) 37 10 lv 0 [] ∧ Below w.heap.size w w' from fun v w h => Decode_at v L9 4 0#64 [] w h (by rw [← hL9]; exact k_short) (by rw [← hL9]; exact k_shortG.1) (by rw [← hL9]; exact k_shortG.2))
  have DEC10 := Lib.hid (show ∀ v w, BytesV w v L0 → Calls Tryz.prog 18 #[v] w fun e w' => ∃ lv, e = .returned (.tuple #[.agg #[.int .u64 0, lv], .int .i64 0]) ∧ w'.ownsRow (w.heap.size + 2) 37 10 lv 0 [] ∧ Below w.heap.size w w' from fun v w h => Decode_at v L0 0 0#64 [] w h (by rw [← HL0.out]; exact k_dec.1) (by rw [← HL0.out]; exact k_dec.2.1) (by rw [← HL0.out]; exact k_dec.2.2))
  have HL9 := Lib.hid hL9
  clear hL9 SEE1 SEE2
  go_upto_region 10 with (first
    | (refine make_law bytesOk rfl _ _ rfl w8.heap.size .i64 .i64 1023 1023 1023 rfl rfl rfl rfl (by omega) (by omega) (Nat.le_refl _) ?_; intro w9 hown hgrow; rw [by8_made, HL9.out] at hown; have Z9 := Lib.hid (OwnN.bytes (show OwnN 1023 w9 w8.heap.size w8.heap.size 1023 L9 from hown)); have hb : Below w8.heap.size w8 w9 := (Below.refl _ _).grown hgrow (Nat.le_refl _) (by intro k hk; cases hk); (replace S8 := Lib.hid (SliceV.below S8.out hb); replace DIR8 := Lib.hid (DIR8.out.below hb); replace R8 := Lib.hid (blk_below R8.out hb); replace U8 := Lib.hid (U8.out.below hb); replace V8 := Lib.hid (V8.out.below hb); replace D8 := Lib.hid (gr_tr D8.out hb)); clear hown hgrow hb)
    | (go_at_call 18; go_loud (refine (DEC9.out _ _ Z9.out).mono ?_; rintro e w10 ⟨lv9, rfl, ho, hb⟩; (replace S8 := Lib.hid (SliceV.below S8.out hb); replace DIR8 := Lib.hid (DIR8.out.below hb); replace R8 := Lib.hid (blk_below R8.out hb); replace U8 := Lib.hid (U8.out.below hb); replace V8 := Lib.hid (V8.out.below hb); replace D8 := Lib.hid (gr_tr D8.out hb)); obtain ⟨a9, c9, rfl⟩ := own_shape ho; clear ho hb))
    | (refine wpList_store_new rfl 60 (.tmp 12) (.tmp 43) rfl #[.int .u64 0, .slice a9 0 c9] 60 _ rfl rfl (by kernel_rfl) rfl (by simp [Value.oneCell']) ?_; intro w11 h11 hb; (replace S8 := Lib.hid (SliceV.below S8.out hb); replace DIR8 := Lib.hid (DIR8.out.below hb); replace R8 := Lib.hid (blk_below R8.out hb); replace U8 := Lib.hid (U8.out.below hb); replace V8 := Lib.hid (V8.out.below hb); replace D8 := Lib.hid (gr_tr D8.out hb)); clear h11 hb))
  clear Z9 HL9 DEC9
  go_upto_region 11 with (first
    | (refine make_law bytesOk rfl _ _ rfl w11.heap.size .i64 .i64 1024 1024 1024 rfl rfl rfl rfl (by omega) (by omega) (Nat.le_refl _) ?_; intro w12 hown hgrow; rw [by8_made, HL0.out] at hown; have Z9 := Lib.hid (OwnN.bytes (show OwnN 1024 w12 w11.heap.size w11.heap.size 1024 L0 from hown)); have hb : Below w11.heap.size w11 w12 := (Below.refl _ _).grown hgrow (Nat.le_refl _) (by intro k hk; cases hk); (replace S8 := Lib.hid (SliceV.below S8.out hb); replace DIR8 := Lib.hid (DIR8.out.below hb); replace R8 := Lib.hid (blk_below R8.out hb); replace U8 := Lib.hid (U8.out.below hb); replace V8 := Lib.hid (V8.out.below hb); replace D8 := Lib.hid (gr_tr D8.out hb)); clear hown hgrow hb)
    | (go_at_call 18; go_loud (refine (DEC10.out _ _ Z9.out).mono ?_; rintro e w13 ⟨lv9, rfl, ho, hb⟩; (replace S8 := Lib.hid (SliceV.below S8.out hb); replace DIR8 := Lib.hid (DIR8.out.below hb); replace R8 := Lib.hid (blk_below R8.out hb); replace U8 := Lib.hid (U8.out.below hb); replace V8 := Lib.hid (V8.out.below hb); replace D8 := Lib.hid (gr_tr D8.out hb)); obtain ⟨aa, ca, rfl⟩ := own_shape ho; clear ho hb))
    | (refine wpList_store_new rfl 60 (.tmp 14) (.tmp 48) rfl #[.int .u64 0, .slice aa 0 ca] 60 _ rfl rfl (by kernel_rfl) rfl (by simp [Value.oneCell']) ?_; intro w14 h11 hb; have T14 := Lib.hid h11; (replace S8 := Lib.hid (SliceV.below S8.out hb); replace DIR8 := Lib.hid (DIR8.out.below hb); replace R8 := Lib.hid (blk_below R8.out hb); replace U8 := Lib.hid (U8.out.below hb); replace V8 := Lib.hid (V8.out.below hb); replace D8 := Lib.hid (gr_tr D8.out hb)); clear h11 hb))
  clear Z9 DEC10 HL0
  have hs1 := run_string U8.out
  have hs2 := run_string V8.out
  obtain ⟨st, hst⟩ : ∃ st, strOf KB = st := ⟨_, rfl⟩
  rw [hst] at hs1 hs2
  clear hst U8 V8
  have GEN := Lib.hid (show ∀ lv hvs w, DirAt w P [⟨kr, [[104#8]]⟩] (0#64 + 1#64) lv hvs → Calls Tryz.prog 13 #[.pointer (some ⟨P, 0, none⟩)] w fun e w' => e = .returned (.int .u64 1) ∧ w = w' from fun lv hvs w h => Gen_at P _ _ lv hvs w h)
  have SAM := Lib.hid (fun v1 v2 w h1 h2 => Same_eq v1 v2 [kr] w h1 h2)
  have x0 : w14.cell? ⟨w13.heap.size, 0, none⟩ = some (.int .u64 0) := (cell_of_row _ _ 0 _ _ _ T14.out).trans rfl
  have x1 : w14.cell? ⟨w13.heap.size, 1, none⟩ = some (.slice aa 0 ca) := (cell_of_row _ _ 1 _ _ _ T14.out).trans rfl
  go_wp2_with (first
    | (refine wpList_load_rowG rfl 37 (.tmp 4) rfl R rfl 37 #[.int .u8 3, .int .u8 0, .bool false, .bool false, .int .u16 0, .int .u16 65535, .int .u16 32, .string ⟨#[]⟩, .string ⟨#[115]⟩, .string ⟨#[97]⟩] (0, 0) _ R8.out Tryz.underlying37 rfl (by kernel_rfl) ?_)
    | (go_at_call 19; go_loud (refine (SAM.out _ _ _ (SliceV.below S8.out (gr_alloc _ _)) (one_rec _)).mono ?_; rintro e w15 ⟨rfl, hb⟩; have hb2 := gr_tr (gr_alloc w14 (.cells #[.int .u8 3, .int .u8 0, .bool false, .bool false, .int .u16 0, .int .u16 65535, .int .u16 32, .string ⟨#[]⟩, .string ⟨#[115]⟩, .string ⟨#[97]⟩] 37)) hb; replace DIR8 := Lib.hid (DIR8.out.below hb2); replace D8 := Lib.hid (gr_tr D8.out hb2); replace T14 := Lib.hid (blk_below T14.out hb2); clear hb hb2 x0 x1; have x0 : w15.cell? ⟨w13.heap.size, 0, none⟩ = some (.int .u64 0) := (cell_of_row _ _ 0 _ _ _ T14.out).trans rfl; have x1 : w15.cell? ⟨w13.heap.size, 1, none⟩ = some (.slice aa 0 ca) := (cell_of_row _ _ 1 _ _ _ T14.out).trans rfl))
    | (go_at_call 13; go_loud (refine (GEN.out _ _ _ DIR8.out).mono ?_; rintro e w16 ⟨rfl, rfl⟩)))
  go_ret
  exact ⟨rfl, D8.out⟩
end Go.Proofs.YtjcgdenkmmgmfaaGreatDoor
