/- The walk of capsulelaw23.known: the examples of the chapter. -/
import Derived.Test.YthnnopjakpjoeaaDoorLogE
import Derived.Test.YthnnopjakpjoeaaDoorLogP
import Derived.Test.YthnnopjakpjoeaaDoorOpenG
import Derived.Test.YthnnopjakpjoeaaDoorGuarded
namespace Go.Proofs.YthnnopjakpjoeaaDoor
open Go.RowKit Lg
set_option linter.unusedVariables false
set_option linter.unusedSimpArgs false
namespace Lg
def exS : Slt := ⟨1, 2, [[65#8, 49#8], [], [], [], [], [], []]⟩
def exSB : List (BitVec 8) := sltB exS
theorem exS_ok : sltOk exS = true := by decide +kernel
theorem exS_cells : exSB.length = 512 ∧ exSB[0]? = some 33#8 ∧ (exSB.take 16).drop 8 = [65#8, 49#8, 32#8, 32#8, 32#8, 32#8, 32#8, 32#8] := by decide +kernel
def exNB : List (BitVec 8) := nsBL [1#32, 258#32]
theorem exN_ok : nsOkL [1#32, 258#32] = true ∧ nsOkL [2#32, 2#32] = false := by decide +kernel
theorem exN_cells : exNB.take 8 = [1#8, 0#8, 0#8, 0#8, 2#8, 1#8, 0#8, 0#8] := by decide +kernel
theorem exN_len : exNB.length = 4096 := nsBL_len (by decide)
def exP : List (BitVec 8) := [1#8, 2#8, 3#8, 4#8, 5#8, 6#8, 7#8, 8#8]
theorem exP_ok : slOk exP 4#64 2#32 = true ∧ slOk exP 2#64 1#32 = false ∧ slR exP 4#64 2#32 = [5#8, 6#8, 7#8, 8#8, 0#8, 0#8, 0#8, 0#8] ∧ slR exP 2#64 1#32 = [] := by decide +kernel
def exE (n : BitVec 64) : List (BitVec 8) := erB (numb erZ n)
def exL : Nat → List (List (BitVec 8))
  | 0 => []
  | k + 1 => exE (BitVec.ofNat 64 (k + 1)) :: (exL k).take 1
theorem exE_ok : erOk erZ = true := by decide +kernel
theorem exG : ∃ B, pgB 2 (exL 3) = B ∧ B.length = 128 ∧ B[0]? = some 3#8 ∧ B[64]? = some 2#8 := ⟨_, rfl, by decide +kernel, by decide +kernel, by decide +kernel⟩
end Lg
theorem kn_slots (w : World) (ht : Lib.TabIs Tryd.prog w "strings.asciiSpace" .u8 Lib.asciiSpaceTab) : Calls Tryd.prog 64 #[.agg #[.int .i64 1, .int .i64 2, .string ⟨#[65, 49]⟩, .string ⟨#[]⟩, .string ⟨#[]⟩, .string ⟨#[]⟩, .string ⟨#[]⟩, .string ⟨#[]⟩, .string ⟨#[]⟩]] w fun r w' => ∃ u, r = .returned (.tuple #[u, .int .i64 0]) ∧ BytesV w' u exSB ∧ Below w.heap.size w w' :=
  EncS_at exS 0 exSB w rfl (by decide) ht (by unfold sltE; rw [exS_ok]; rfl) (by unfold sltR; rw [exS_ok]; rfl)
theorem kn_ns1 (v : Value) (w : World) (hv : SliceV w (fun y : BitVec 32 => [Value.int .u32 (uv y)]) v [2#32, 2#32]) : Calls Tryd.prog 39 #[v] w fun r w' => ∃ u, r = .returned (.tuple #[u, .int .i64 2]) ∧ Below w.heap.size w w' :=
  (EncN_at v _ 2 [] w hv (by decide) (by unfold nsEL; rw [exN_ok.2]; rfl) (by unfold nsRL; rw [exN_ok.2]; rfl)).mono fun r w' ⟨u, h1, h2, h3⟩ => ⟨u, h1, h3⟩
theorem kn_ns2 (v : Value) (w : World) (hv : SliceV w (fun y : BitVec 32 => [Value.int .u32 (uv y)]) v [1#32, 258#32]) : Calls Tryd.prog 39 #[v] w fun r w' => ∃ u, r = .returned (.tuple #[u, .int .i64 0]) ∧ BytesV w' u exNB ∧ Below w.heap.size w w' :=
  EncN_at v _ 0 exNB w hv (by decide) (by unfold nsEL; rw [exN_ok.1]; rfl) (by unfold nsRL; rw [exN_ok.1]; rfl)
theorem kn_sl1 (v : Value) (w : World) (hv : BytesV w v exP) : Calls Tryd.prog 14 #[v, .int .u64 4, .int .u32 2] w fun r w' => ∃ u, r = .returned (.tuple #[u, .agg #[.int .u8 0, .int .u8 0, .bool false, .bool false]]) ∧ BytesV w' u [5#8, 6#8, 7#8, 8#8, 0#8, 0#8, 0#8, 0#8] ∧ Below w.heap.size w w' :=
  Slice_at v exP 4#64 2#32 true _ w hv exP_ok.1 exP_ok.2.2.1
theorem kn_sl2 (v : Value) (w : World) (hv : BytesV w v exP) : Calls Tryd.prog 14 #[v, .int .u64 2, .int .u32 1] w fun r w' => ∃ u, r = .returned (.tuple #[u, .agg #[.int .u8 0, .int .u8 2, .bool false, .bool false]]) ∧ BytesV w' u [] ∧ Below w.heap.size w w' :=
  Slice_at v exP 2#64 1#32 false _ w hv exP_ok.2.1 exP_ok.2.2.2
theorem SliceV.of_lit {α : Type} {f : α → List Value} (w : World) (xs : List α) (cs : Array Value) (ty : TypeId) (n : Nat) (hn : n = xs.length) (hm : n ≤ 9223372036854775807) (hcs : cs.toList = xs.flatMap f) : SliceV (w.alloc (.cells cs ty)) f (.slice (some ⟨w.heap.size, 0, none⟩) n n) xs := by
  subst hn
  exact ⟨_, _, rfl, by simp, Nat.le_refl _, hm, by rw [← hcs]; exact Row.lit _ _ _ _⟩
theorem bytes_lit (w : World) (cs : Array Value) (t : TypeId) (l : List (BitVec 8)) (n : Nat) (hn : n = l.length) (hm : n ≤ 9223372036854775807) (hcs : cs.toList = by8 l) : BytesV (w.alloc (.cells cs t)) (.slice (some ⟨w.heap.size, 0, none⟩) n n) l := by
  subst hn
  exact ⟨_, _, rfl, by simp, Nat.le_refl _, hm, by rw [← hcs]; exact Row.lit _ _ _ _⟩
/-- The log of the example when k entries have been added. -/
def LogK (w : World) (p k : Nat) : Prop := ∃ lv vs, ErrAt w p (exL k) (BitVec.ofNat 64 k) 2 lv vs
theorem LogK.below {w w' : World} {p k : Nat} (h : LogK w p k) (hb : Below w.heap.size w w') : LogK w' p k := by obtain ⟨lv, vs, h⟩ := h; exact ⟨lv, vs, h.below hb⟩
theorem exL_len : ∀ k, (exL k).length ≤ 2
  | 0 => by decide
  | k + 1 => by unfold exL; rw [List.length_cons, List.length_take]; omega
theorem kn_add (p k : Nat) (n : Int) (w : World) (hn : uv (BitVec.ofNat 64 k + 1#64) = n) (h : LogK w p k) : Calls Tryd.prog 27 #[.pointer (some ⟨p, 0, none⟩), .agg #[.int .u64 0, .int .u16 0, .int .u16 0, .int .u8 0, .int .u8 0, .bool false, .bool false, .int .u16 0, .int .u64 0, .int .u32 0, .int .u64 0]] w fun e w' => e = .returned (.tuple #[.int .u64 n, .int .i64 0]) ∧ LogK w' p (k + 1) ∧ Chg (fun b => b = p) w w' := by
  obtain ⟨lv, vs, h⟩ := h
  have hc : BitVec.ofNat 64 k + 1#64 = BitVec.ofNat 64 (k + 1) := by
    apply BitVec.eq_of_toNat_eq; simp
  have := Add_ok p (exL k) (BitVec.ofNat 64 k) 1 lv vs erZ (exE (BitVec.ofNat 64 (k + 1))) w h (by have := exL_len k; omega) (by decide) exE_ok (by rw [hc]; rfl)
  rw [hn] at this
  refine this.mono ?_
  rintro e w' ⟨h1, ⟨lv', vs', h2⟩, h3⟩
  rw [hc] at h2
  exact ⟨h1, ⟨lv', vs', h2⟩, h3⟩
theorem kn_page (p : Nat) (B : List (BitVec 8)) (w : World) (h : LogK w p 3) (hB : pgB 2 (exL 3) = B) : Calls Tryd.prog 29 #[.pointer (some ⟨p, 0, none⟩)] w fun e w' => ∃ u, e = .returned u ∧ BytesV w' u B ∧ Below w.heap.size w w' := by
  obtain ⟨lv, vs, h⟩ := h
  exact Page_ok p (exL 3) (BitVec.ofNat 64 3) 2 lv vs B w h (by have := exL_len 3; omega) (by decide) hB
set_option maxHeartbeats 6400000 in
set_option maxRecDepth 100000 in
theorem known_any (w : World) (ht : Lib.TabIs Tryd.prog w "strings.asciiSpace" .u8 Lib.asciiSpaceTab) : Calls Tryd.prog 13 #[] w fun e w' => e = .returned (.bool true) ∧ Below w.heap.size w w' := by
  have HT := Lib.hid ht
  clear ht
  go_enter Tryd.func13, Tryd.ntmps13
  go_upto_region 4 with (first
    | (go_at_call 64; go_loud (refine (kn_slots _ HT.out).mono ?_; rintro r w1 ⟨u1, rfl, hu, hw⟩; have A := Lib.hid hu; have B := Lib.hid hw; clear hu hw))
    | (go_at_call 39; go_loud ((with_reducible refine (kn_ns1 _ (w1.alloc (.cells #[.int .u32 2, .int .u32 2] 24)) (SliceV.of_lit w1 [2#32, 2#32] #[.int .u32 2, .int .u32 2] 24 2 rfl (by omega) rfl)).mono ?_); rintro r w2 ⟨u2, rfl, hw⟩; replace hw := gr_tr (gr_alloc w1 (.cells #[.int .u32 2, .int .u32 2] 24)) hw; replace A := Lib.hid (A.out.below hw); replace B := Lib.hid (gr_tr B.out hw); clear hw))
    | (go_at_call 39; go_loud ((with_reducible refine (kn_ns2 _ (w2.alloc (.cells #[.int .u32 1, .int .u32 258] 24)) (SliceV.of_lit w2 [1#32, 258#32] #[.int .u32 1, .int .u32 258] 24 2 rfl (by omega) rfl)).mono ?_); rintro r w3 ⟨u3, rfl, hu, hw⟩; replace hw := gr_tr (gr_alloc w2 (.cells #[.int .u32 1, .int .u32 258] 24)) hw; replace A := Lib.hid (A.out.below hw); have N := Lib.hid hu; replace B := Lib.hid (gr_tr B.out hw); clear hu hw)))
  go_upto_region 6 with (first
    | (go_at_call 14; go_loud ((with_reducible refine (kn_sl1 _ (w3.alloc (.cells #[.int .u8 1, .int .u8 2, .int .u8 3, .int .u8 4, .int .u8 5, .int .u8 6, .int .u8 7, .int .u8 8] 5)) (bytes_lit w3 #[.int .u8 1, .int .u8 2, .int .u8 3, .int .u8 4, .int .u8 5, .int .u8 6, .int .u8 7, .int .u8 8] 5 exP 8 rfl (by omega) rfl)).mono ?_); rintro r w4 ⟨u4, rfl, hu, hw⟩; replace hw := gr_tr (gr_alloc w3 (.cells #[.int .u8 1, .int .u8 2, .int .u8 3, .int .u8 4, .int .u8 5, .int .u8 6, .int .u8 7, .int .u8 8] 5)) hw; replace A := Lib.hid (A.out.below hw); replace N := Lib.hid (N.out.below hw); have P := Lib.hid hu; replace B := Lib.hid (gr_tr B.out hw); clear hu hw))
    | (refine wpList_store_new rfl 27 (.tmp 8) (.tmp 37) rfl #[.int .u8 0, .int .u8 0, .bool false, .bool false] 27 _ rfl rfl (by kernel_rfl) rfl (by simp [Value.oneCell']) ?_; intro w5 hh hw; have S5 := Lib.hid hh; replace A := Lib.hid (A.out.below hw); replace N := Lib.hid (N.out.below hw); replace P := Lib.hid (P.out.below hw); replace B := Lib.hid (gr_tr B.out hw); clear hh hw)
    | (go_at_call 14; go_loud ((with_reducible refine (kn_sl2 _ (w5.alloc (.cells #[.int .u8 1, .int .u8 2, .int .u8 3, .int .u8 4, .int .u8 5, .int .u8 6, .int .u8 7, .int .u8 8] 5)) (bytes_lit w5 #[.int .u8 1, .int .u8 2, .int .u8 3, .int .u8 4, .int .u8 5, .int .u8 6, .int .u8 7, .int .u8 8] 5 exP 8 rfl (by omega) rfl)).mono ?_); rintro r w6 ⟨u6, rfl, -, hw⟩; replace hw := gr_tr (gr_alloc w5 (.cells #[.int .u8 1, .int .u8 2, .int .u8 3, .int .u8 4, .int .u8 5, .int .u8 6, .int .u8 7, .int .u8 8] 5)) hw; replace A := Lib.hid (A.out.below hw); replace N := Lib.hid (N.out.below hw); replace P := Lib.hid (P.out.below hw); replace S5 := Lib.hid (blk_below S5.out hw); replace B := Lib.hid (gr_tr B.out hw); clear hw))
    | (refine wpList_store_new rfl 27 (.tmp 10) (.tmp 42) rfl #[.int .u8 0, .int .u8 2, .bool false, .bool false] 27 _ rfl rfl (by kernel_rfl) rfl (by simp [Value.oneCell']) ?_; intro w7 hh hw; have S7 := Lib.hid hh; replace A := Lib.hid (A.out.below hw); replace N := Lib.hid (N.out.below hw); replace P := Lib.hid (P.out.below hw); replace S5 := Lib.hid (blk_below S5.out hw); replace B := Lib.hid (gr_tr B.out hw); clear hh hw))
  go_upto_region 7 with (go_at_call 25; go_loud (refine (NewErr_ok 2 _ (by decide) (by decide)).mono ?_; rintro r w8 ⟨p, rfl, hp, hE, hw⟩; have HP := Lib.hid hp; have E := Lib.hid (show LogK w8 p 0 from ⟨_, _, hE⟩); replace A := Lib.hid (A.out.below hw); replace N := Lib.hid (N.out.below hw); replace P := Lib.hid (P.out.below hw); replace S5 := Lib.hid (blk_below S5.out hw); replace S7 := Lib.hid (blk_below S7.out hw); have B7 := B; replace B := Lib.hid (gr_tr B.out hw); clear hp hE hw))
  have WP := Lib.hid (show w.heap.size ≤ p from Nat.le_trans B7.out.size HP.out)
  obtain ⟨x1, x2, x3⟩ := exS_cells
  obtain ⟨ga, oa, ca, rfl⟩ := A.out.shapeAt (by rw [x1]; decide)
  have a0 := A.out.cellAt x2
  obtain ⟨ua, hua, hra, -⟩ := A.out.cut (P := Tryd.prog) (T := 22) Tryd.underlying22 bszU 8 16 (by omega) (by rw [x1]; decide)
  rw [x3] at hua
  have sa := run_string hua
  rw [show strOf [65#8, 49#8, 32#8, 32#8, 32#8, 32#8, 32#8, 32#8] = ⟨#[65, 49, 32, 32, 32, 32, 32, 32]⟩ from rfl] at sa
  obtain ⟨gn, on, cn, rfl⟩ := N.out.shapeAt (by rw [exN_len]; decide)
  obtain ⟨un, hun, -, hrn⟩ := N.out.cut (P := Tryd.prog) (T := 22) Tryd.underlying22 bszU 0 8 (by omega) (by rw [exN_len]; decide)
  rw [List.drop_zero, exN_cells] at hun
  have sn := run_string hun
  rw [show strOf [1#8, 0#8, 0#8, 0#8, 2#8, 1#8, 0#8, 0#8] = ⟨#[1, 0, 0, 0, 2, 1, 0, 0]⟩ from rfl] at sn
  have hrn2 := hrn rfl
  clear hrn
  have sp := run_string P.out
  rw [show strOf [5#8, 6#8, 7#8, 8#8, 0#8, 0#8, 0#8, 0#8] = ⟨#[5, 6, 7, 8, 0, 0, 0, 0]⟩ from rfl] at sp
  rw [x1] at hra ⊢
  rw [exN_len] at hrn2 ⊢
  clear x1 x2 x3 hua hun
  replace hra : ∀ w' : World, (Instr.slice 22 (.slice (some ⟨ga, oa, none⟩) 512 ca) (some (.int .i64 8)) (some (.int .i64 16)) none).run Tryd.prog w' = .ok ua w' := hra
  replace hrn2 : ∀ w' : World, (Instr.slice 22 (.slice (some ⟨gn, on, none⟩) 4096 cn) none (some (.int .i64 8)) none).run Tryd.prog w' = .ok un w' := hrn2
  replace a0 : w8.cell? ⟨ga, oa, none⟩ = some (.int .u8 33) := a0
  go_upto_region 9 with (first
    | (refine wpList_unguard (by rfl) (wpList_load_row rfl 27 (.tmp 8) rfl w4.heap.size rfl 27 #[.int .u8 0, .int .u8 0, .bool false, .bool false] (0, 0) _ S5.out Tryd.underlying27 rfl (by kernel_rfl) ?_))
    | (go_at_call 16; go_loud (refine (good_any true _).mono ?_; rintro r w9 ⟨rfl, hw⟩; replace E := Lib.hid (E.out.below hw); replace S7 := Lib.hid (blk_below S7.out hw); replace B := Lib.hid (gr_tr B.out hw); clear hw))
    | (refine wpList_unguard (by rfl) (wpList_load_row rfl 27 (.tmp 10) rfl w6.heap.size rfl 27 #[.int .u8 0, .int .u8 2, .bool false, .bool false] (0, 0) _ S7.out Tryd.underlying27 rfl (by kernel_rfl) ?_))
    | (go_at_call 65; go_loud (refine (code_no _).mono ?_; rintro r w10 ⟨rfl, hw⟩; replace E := Lib.hid (E.out.below hw); replace B := Lib.hid (gr_tr B.out hw); clear hw)))
  have BB := Lib.hid B.out
  clear sa sn sp a0 hra hrn2 A N P S5 S7 B7 HP
  clear B
  go_upto_region 10 with (fail)
  go_loopw [13] (fun i wr => ∃ k : Nat, k ≤ 3 ∧ i = .int .u64 ((k : Int) + 1) ∧ LogK wr p k ∧ Below w.heap.size w wr) (fun i _ => 4 - (intOf i).toNat)
  case atStart => exact ⟨0, by omega, rfl, E.out, BB.out⟩
  case round =>
    obtain ⟨k, hk, rfl, hl, hd⟩ := hrel
    have LK := Lib.hid hl; have D := Lib.hid hd
    clear hl hd
    have hk4 : k = 0 ∨ k = 1 ∨ k = 2 ∨ k = 3 := by omega
    clear hk
    rcases hk4 with rfl | rfl | rfl | rfl
    · have e : ((0 : Nat) : Int) + 1 = 1 := rfl
      rw [e]; clear e
      go_wp2_with (go_at_call 27; go_loud (refine (kn_add p 0 1 _ rfl LK.out).mono ?_; rintro r w12 ⟨rfl, hl, hc⟩; have L2 := Lib.hid hl; have D2 := Lib.hid (D.out.trans (hc.below (fun q hq => by cases hq; exact WP.out) D.out.size)); clear hl hc))
      go_roundw
      case rel => exact ⟨1, by omega, rfl, L2.out, D2.out⟩
      case measure => first | decide | (simp [intOf]; decide)
    · have e : ((1 : Nat) : Int) + 1 = 2 := rfl
      rw [e]; clear e
      go_wp2_with (go_at_call 27; go_loud (refine (kn_add p 1 2 _ rfl LK.out).mono ?_; rintro r w12 ⟨rfl, hl, hc⟩; have L2 := Lib.hid hl; have D2 := Lib.hid (D.out.trans (hc.below (fun q hq => by cases hq; exact WP.out) D.out.size)); clear hl hc))
      go_roundw
      case rel => exact ⟨2, by omega, rfl, L2.out, D2.out⟩
      case measure => first | decide | (simp [intOf]; decide)
    · have e : ((2 : Nat) : Int) + 1 = 3 := rfl
      rw [e]; clear e
      go_wp2_with (go_at_call 27; go_loud (refine (kn_add p 2 3 _ rfl LK.out).mono ?_; rintro r w12 ⟨rfl, hl, hc⟩; have L2 := Lib.hid hl; have D2 := Lib.hid (D.out.trans (hc.below (fun q hq => by cases hq; exact WP.out) D.out.size)); clear hl hc))
      go_roundw
      case rel => exact ⟨3, by omega, rfl, L2.out, D2.out⟩
      case measure => first | decide | (simp [intOf]; decide)
    · have e : ((3 : Nat) : Int) + 1 = 4 := rfl
      rw [e]; clear e
      obtain ⟨G, hG, g1, g2, g3⟩ := exG
      have HG := Lib.hid hG
      have G1 := Lib.hid g1; have G2 := Lib.hid g2; have G3 := Lib.hid g3
      clear hG g1 g2 g3
      go_upto_region 16 with (go_at_call 29; go_loud (refine (kn_page p G _ LK.out HG.out).mono ?_; rintro r w12 ⟨u, rfl, hu, hw⟩; have U := Lib.hid hu; have D2 := Lib.hid (D.out.trans (hw.mono D.out.size)); clear hu hw))
      obtain ⟨gg, og, cg, rfl⟩ := U.out.shapeAt (by rw [G1.out]; decide)
      have b0 := U.out.cellAt G2.out; have b1 := U.out.cellAt G3.out
      rw [G1.out]
      replace b0 : w12.cell? ⟨gg, og, none⟩ = some (.int .u8 3) := b0
      replace b1 : w12.cell? ⟨gg, og + 64, none⟩ = some (.int .u8 2) := b1
      go_wp2
      go_ret
      exact ⟨rfl, D2.out⟩
end Go.Proofs.YthnnopjakpjoeaaDoor
