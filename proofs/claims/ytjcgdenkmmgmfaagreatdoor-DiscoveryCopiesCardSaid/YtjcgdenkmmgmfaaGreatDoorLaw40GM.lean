/- Merged: DscAll, RfQuiet, DscLk, DscUq, DscDo, DscDoA, Few40, Few40b, Law40F, RfPlan, DscCp, DscNil, Law40G. -/
import Derived.Test.YtjcgdenkmmgmfaaGreatDoorDscR
import Derived.Test.YtjcgdenkmmgmfaaGreatDoorDscM1
import Derived.Test.YtjcgdenkmmgmfaaGreatDoorRfJoin
import Derived.Sort.QuietTacIn
import Derived.Deep.MidRow
import Derived.Test.YtjcgdenkmmgmfaaGreatDoorDscT
import Derived.Test.YtjcgdenkmmgmfaaGreatDoorDscH
import Derived.Test.YtjcgdenkmmgmfaaGreatDoorPlanL
namespace Go.Proofs.YtjcgdenkmmgmfaaGreatDoor
open Go.RowKit Go.Shelf Dsc
set_option linter.unusedVariables false
set_option linter.unusedSimpArgs false
attribute [local go_sem] Oper.semAt_some
theorem CloneEnt_at (v : Value) (zs : List (Rec × Value)) (w : World) (hv : SliceV w entC v zs) (hs : zs.length ≤ 256) (hone : ∀ u ∈ zs.flatMap entC, u.oneCell' = true) :
    Calls Tryz.prog 27 #[v] w fun e w' => ∃ u, e = .returned u ∧ w'.ownsRow w.heap.size 70 11 u zs.length (zs.flatMap entC) ∧ Below w.heap.size w w' := by
  obtain ⟨a, c, rfl, h0, h1, h2, h3⟩ := hv
  cases a with
  | none =>
    have hc := h0 rfl
    have hl : zs = [] := List.length_eq_zero_iff.1 (by omega)
    subst hl
    have hq := fun (w : World) n c => Lib.run_eql_slice_nil (P := Tryz.prog) w 26 70 none n c 0 0 Tryz.underlying26
    go_enter Tryz.func27, Tryz.ntmps27
    go_wp2
    go_ret
    exact ⟨_, rfl, World.ownsRow_nil _ _ _ _, Below.refl _ _⟩
  | some ad =>
    have H1 := Lib.hid h1; have H3 := Lib.hid h3; have H11 := Lib.hid hone
    obtain ⟨n, hn⟩ : ∃ n, zs.length = n := ⟨_, rfl⟩
    have HN := Lib.hid hn
    rw [hn] at hs H1 ⊢
    clear h0 h1 h2 h3 hone hn
    have hq := fun (w : World) n c => Lib.run_eql_slice_nil (P := Tryz.prog) w 26 70 (some ad) n c 0 0 Tryz.underlying26
    go_enter Tryz.func27, Tryz.ntmps27
    go_wp2_with (at_builtin; go_loud (refine app_law_at entsOk rfl _ _ rfl w.heap.size (.slice (some ⟨w.heap.size, 0, none⟩) 0 0) 0 [] rfl (World.ownsRow_made w #[] 0 (Nat.le_refl _) (by decide) rfl) (some ad) n c (zs.flatMap entC) rfl (by simp) H1.out (H3.out.below (gr_alloc _ _)) (by rw [flat_len (f := entC) (k := 11) entC_len, HN.out]) H11.out (by omega) (by omega) (by simp) ?_; intro v' w1 hown hgrow _; simp only [Nat.zero_add, List.nil_append] at hown))
    go_ret
    exact ⟨_, rfl, hown, (gr_alloc w _).grown hgrow (by simp) (by intro k hk; simp [Value.ownBlock] at hk; omega)⟩
theorem All_at (p : Nat) (es : List Ent) (g : BitVec 64) (lv : Value) (hvs : List Value) (w : World) (hd : DirAt w p es g lv hvs) (hlen : es.length ≤ 256) :
    Calls Tryz.prog 10 #[.pointer (some ⟨p, 0, none⟩)] w fun e w' => ∃ u, e = .returned (.func (.func 28) #[] #[.pointer (some ⟨w.heap.size, 0, none⟩)]) ∧ w'.heap[w.heap.size]? = some (.cells #[u] 26 (0, 0)) ∧ w'.ownsRow (w.heap.size + 1) 70 11 u es.length (((es.map (·.r)).zip hvs).flatMap entC) ∧ Below w.heap.size w w' := by
  have hz : ((es.map (·.r)).zip hvs).length = es.length := by rw [List.length_zip, List.length_map, hd.len]; omega
  obtain ⟨zs, hzs⟩ : ∃ z, ((es.map (·.r)).zip hvs) = z := ⟨_, rfl⟩
  have CLN := Lib.hid (fun w' (h : Below w.heap.size w w') => CloneEnt_at lv zs w' (by rw [← hzs]; exact SliceV.below hd.slice h) (by rw [← hzs, hz]; exact hlen) (by rw [← hzs]; exact hd.ones))
  have DD := Lib.hid hd
  rw [hzs] at hz ⊢
  have HZ := Lib.hid hz
  obtain ⟨W, hW⟩ : ∃ W, W = w.alloc (.cells #[.slice none 0 0] 26) := ⟨_, rfl⟩
  have D := Lib.hid (show Below w.heap.size w W by rw [hW]; exact gr_alloc w _)
  have X := Lib.hid (show W.heap[w.heap.size]? = some (.cells #[.slice none 0 0] 26 (0, 0)) by rw [hW]; exact heap_alloc_new w _)
  have WS := Lib.hid (show W.heap.size = w.heap.size + 1 by rw [hW]; simp)
  have HW := Lib.hid hW
  have p0 : W.cell? ⟨p, 0, none⟩ = some lv := (cell_of_row _ _ 0 _ _ _ (blk_below hd.blk D.out)).trans rfl
  obtain ⟨al, cl, hlv⟩ : ∃ a c, lv = .slice a es.length c := own_shape hd.own
  subst hlv
  obtain ⟨n, hn⟩ : ∃ n, es.length = n := ⟨_, rfl⟩
  rw [hn] at CLN HZ p0 ⊢
  clear hW hd hlen hz hzs hn
  go_enter Tryz.func10, Tryz.ntmps10
  go_upto_region 2 with fail
  rw [← HW.out]
  go_wp2_with (go_at_call 27; go_loud (refine (CLN.out _ D.out).mono ?_; rintro e w2 ⟨u, rfl, ho, hb⟩; obtain ⟨au, cu, rfl⟩ := own_shape ho; have O2 := Lib.hid ho; have X2 := Lib.hid (blk_below X.out hb); have D2 := Lib.hid (gr_tr D.out hb); have x2 : w2.cell? ⟨w.heap.size, 0, none⟩ = some (.slice none 0 0) := (cell_of_row _ _ 0 _ _ _ X2.out).trans rfl; have z2 := frozen_of_row _ _ 0 _ _ X2.out; clear ho hb))
  go_ret
  refine ⟨_, rfl, heap_setCell_same _ _ _ _ _ _ X2.out, ?_, D2.out.setCell (p := ⟨w.heap.size, 0, none⟩) (Nat.le_refl _) _⟩
  have h := own_chg O2.out (Chg.setCell (B := fun k => k = w.heap.size) (p := ⟨w.heap.size, 0, none⟩) w2 rfl (.slice au zs.length cu)) (fun k hk e => by have e' : k = w.heap.size := e; have := (O2.out.lt k hk).1; have := WS.out; omega)
  rw [HZ.out, WS.out] at h
  rw [HZ.out]
  exact h
theorem wpListIn_load_mid {F : Fence} {n : Nat} {P : Program} {ops : Array Oper} {rest : List Oper} {o : Oper} {a : Act} {w : World} {Q : Exit → Act → World → Prop} (hgd : o.guard = none) (ty : TypeId) (x : Operand) (ho : o.op = .load ty x)
    (b off : Nat) (hx : a.eval x = .pointer (some ⟨b, off, none⟩)) (cs : List Value) (d : TypeDesc) (hc : w.rangeAt b off cs)
    (hu : P.underlying ty = some d) (hd : d.isRow = true) (hi : (P.info? ty).map (·.size) = some cs.length)
    (h : wpListIn F n P ops Q rest (a.put o.dst (.agg cs.toArray)) w) : wpListIn F n P ops Q (o :: rest) a w := by
  refine wpListIn_plain hgd fun K hK => ?_
  unfold Oper.wpIn
  refine ⟨by simp [Oper.about, ho], ?_⟩
  rw [Oper.semAt_plain F _ _ (by rw [ho]; intro c hc; cases hc)]
  unfold execOp
  simp only [ho, hx, Sem.run_bind, Sem.run_pure, Result.andThen_ok, run_loadAt_mid w b off ty cs d hc hu hd hi]
  exact hK _ _ h
/-- The record of a place. -/
def rcOf (zs : List (Rec × Value)) (i : Nat) : Array Value := match zs[i]? with | some x => x.1.cells.toArray | none => #[]
theorem rng_same {w w' : World} {g o : Nat} {cs : List Value} (h : w.rangeAt g o cs) (hk : w'.heap[g]? = w.heap[g]?) : w'.rangeAt g o cs := fun j v hj => (World.cell?_of_block (a := ⟨g, o + j, none⟩) hk).trans (h j v hj)
set_option maxHeartbeats 6400000 in
set_option maxRecDepth 20000 in
theorem All_stops (n : Nat) (hn : 1 ≤ n) (m : Nat) (u : Value) (zs : List (Rec × Value)) (B : Nat) (w : World) (hB : B < w.heap.size) (h1 : w.heap[B]? = some (.cells #[u] 26 (0, 0)))
    (hu : SliceV w entC u zs) (hm : zs.length = m) (hm256 : m ≤ 256) (hbl : ∀ k, u.ownBlock = some k → k < w.heap.size) (hon : ∀ x ∈ zs, (entC x).toArray.all (·.oneCell') = true) :
    SeqStopsK Fence.wide n Tryz.prog 28 #[.pointer (some ⟨B, 0, none⟩)] (fun i : Fin m => #[.int .i64 (i.val : Int), .agg (rcOf zs i.val)]) (fun W W' => ∀ k, u.ownBlock = some k → W'.heap[k]? = W.heap[k]?) (fun xs => xs.map (·.val) = List.range m) (fun pre => pre.map (·.val) = List.range pre.length ∧ 0 < pre.length) m w := fun l J Jx W hW hJ hJx hY h0 => by
  have X1 := Lib.hid ((hW.block B hB).trans h1)
  have HJ := Lib.hid hJ; have HY := Lib.hid hY; have H0 := Lib.hid h0
  have SU := Lib.hid hu
  have KW := Lib.hid (show ∀ k, u.ownBlock = some k → W.heap[k]? = w.heap[k]? from fun k hk => hW.block k (hbl k hk))
  have HM := Lib.hid hm
  have HON := Lib.hid hon
  have HBL := Lib.hid hbl
  have HWW := Lib.hid hW
  obtain ⟨a, c, rfl, -⟩ := id hu
  rw [hm] at X1 SU KW HBL
  have q1 : W.cell? ⟨B, 0, none⟩ = some (.slice a m c) := (cell_of_row _ _ 0 _ _ _ X1.out).trans rfl
  refine callsIn_wide.2 ?_
  clear hW hJ hJx hY h0 h1 hu hm hbl hon
  go_enter Tryz.func28, Tryz.ntmps28
  refine wp_scope_straight ?_
  refine wp_seq (wp_label ?_)
  go_wp2
  clear q1
  go_loopw [7] (fun i wr => ∃ k : Nat, k ≤ m ∧ i = .int .i64 k ∧ J (Rf.first m k) wr ∧ Hid (∀ kk, (Value.slice a m c).ownBlock = some kk → wr.heap[kk]? = w.heap[kk]?)) (fun i _ => m - (intOf i).toNat)
  case atStart => exact ⟨0, by omega, rfl, H0.out, KW⟩
  case round =>
    obtain ⟨k, hk, rfl, hJW, KK⟩ := hrel
    have JW := Lib.hid hJW
    clear hJW
    by_cases hlt : k < m
    · obtain ⟨x, hx⟩ : ∃ x, zs[k]? = some x := ⟨_, List.getElem?_eq_getElem (by rw [HM.out]; exact hlt)⟩
      obtain ⟨gq, o, cq, he1, hr1⟩ := SliceV.rng entC_len SU.out k x hx (by decide)
      injection he1 with he1 he1' he1''
      subst he1; subst he1''
      have R1 := Lib.hid (rng_same hr1 (KK.out gq rfl))
      have HRC := Lib.hid (show rcOf zs k = x.1.cells.toArray by unfold rcOf; rw [hx])
      have ECL := Lib.hid (entC_len x)
      have EON : (entC x).toArray.all (·.oneCell') = true := HON.out x (List.mem_of_getElem? hx)
      have JM := Lib.hid (Rf.first_more m k hlt).symm
      have JL := Lib.hid (Rf.first_len m k (Nat.le_of_lt hlt))
      have JL1 := Lib.hid (Rf.first_len m (k + 1) hlt)
      have JV := Lib.hid (Rf.first_val m (k + 1) hlt)
      have HYM := Lib.hid (fun (W1 : World) (hj : J (Rf.first m k) W1) => HY.out (Rf.first m k) ⟨k, hlt⟩ W1 hj (by rw [JL.out]; exact hlt))
      clear hx hr1 he1'
      obtain ⟨ec, hec⟩ : ∃ c, entC x = c := ⟨_, rfl⟩
      have RL := Lib.hid (show ∃ t, ec = x.1.cells ++ t from ⟨[x.2], by rw [← hec]; rfl⟩)
      rw [hec] at R1 ECL EON
      have ECS := Lib.hid (show ec.toArray.size = 11 by rw [List.size_toArray]; exact ECL.out)
      have EONH := Lib.hid EON
      obtain ⟨rc, hrc⟩ : ∃ c, x.1.cells = c := ⟨_, rfl⟩
      have RCL := Lib.hid (show rc.length = 10 by rw [← hrc]; rfl)
      rw [hrc] at RL HRC
      clear hec EON hrc
      go_upto_region 3 with (first
        | (refine wpList_load_mid rfl 70 (.tmp 10) rfl gq (o + k * 11) rfl ec _ R1.out Tryz.underlying70 rfl (by rw [ECL.out]; kernel_rfl) ?_)
        | (refine wpList_store_new rfl 70 (.tmp 4) (.tmp 11) rfl ec.toArray 70 _ rfl rfl (by rw [ECS.out]; kernel_rfl) (by rw [ECS.out]; rfl) EONH.out ?_; intro w3 hh hw; have Y3 := Lib.hid hh; have B3 := Lib.hid hw; clear hh hw))
      have J1 := Lib.hid (HJ.out _ _ _ none JW.out (grown_of_below B3.out) (fun r e => by cases e))
      have K3 := Lib.hid (show ∀ kk, (Value.slice (some ⟨gq, o, none⟩) m c).ownBlock = some kk → w3.heap[kk]? = w.heap[kk]? from fun kk hkk => (B3.out.block kk (by
        have h9 := HBL.out kk hkk
        have h8 := KK.out kk hkk
        rcases Nat.lt_or_ge kk wr.heap.size with h7 | h7
        · exact h7
        · rw [Array.getElem?_eq_none h7, Array.getElem?_eq_getElem h9] at h8; cases h8)).trans (KK.out kk hkk))
      have R3 := Lib.hid (show w3.rangeAt wr.heap.size 0 rc from fun j v hj => by
        rw [Nat.zero_add]
        obtain ⟨t, ht⟩ := RL.out
        refine (cell_of_row _ _ j _ _ _ Y3.out).trans ?_
        rw [ht, List.getElem?_toArray, List.getElem?_append_left (List.getElem?_eq_some_iff.1 hj).1, hj])
      obtain ⟨fn, tmps, assign, body, hy, hR⟩ := HYM.out _ J1.out
      rw [HRC.out] at hy
      obtain ⟨q, hq⟩ : ∃ q, wr.heap.size = q := ⟨_, rfl⟩
      rw [hq] at R3 ⊢
      clear hq
      refine (wpIn_wide (n := n)).1 ?_
      gi_wp2_with (refine wpListIn_load_mid rfl 37 (.tmp 14) rfl q 0 rfl rc _ R3.out Tryz.underlying37 rfl (by rw [RCL.out]; kernel_rfl) ?_)
      refine hR.mono ?_
      clear hy hR
      rintro e W3 (⟨rfl, hJ3, hk3⟩ | ⟨rfl, hJx3⟩)
      · have J3 := Lib.hid hJ3
        have T3 := Lib.hid (show ∀ kk, (Value.slice (some ⟨gq, o, none⟩) m c).ownBlock = some kk → W3.heap[kk]? = w.heap[kk]? from fun kk hkk => (hk3 kk hkk).trans (K3.out kk hkk))
        clear hJ3 hk3
        gi_wp2
        go_wp2
        go_roundw
        case rel => exact ⟨k + 1, by omega, by go_num, by rw [← JM.out]; exact J3.out, T3⟩
        case measure => simp [intOf]; omega
      · have J3 := Lib.hid hJx3
        clear hJx3
        gi_wp2
        go_wp2
        unfold Exit.noGoto
        go_end0
        exact ⟨⟨_, rfl⟩, .inr ⟨_, ⟨by rw [JM.out, JL1.out]; exact JV.out, by rw [JM.out, JL1.out]; omega⟩, J3.out⟩⟩
    · obtain rfl : k = m := by omega
      go_wp2
      unfold Exit.noGoto
      go_end0
      exact ⟨⟨_, rfl⟩, .inl ⟨_, Rf.first_val _ _ (Nat.le_refl _), JW.out⟩⟩
end Go.Proofs.YtjcgdenkmmgmfaaGreatDoor
namespace Go.Proofs.YtjcgdenkmmgmfaaGreatDoor
open Go.RowKit Go.Shelf
set_option linter.unusedVariables false
set_option linter.unusedSimpArgs false
section
variable {F : Fence} {n : Nat} {P : Program} {ops : Array Oper} {Q : Exit → Act → World → Prop} {md : Region.Mode} {C : World → Prop}
/-- No operation is a defer. -/
def noDefer (ops : List Oper) : Bool := ops.all fun o => match o.op with | .defer _ => false | _ => true
theorem noDefer_at {l : List Oper} (h : noDefer l = true) {i : Nat} {o : Oper} (ho : l.toArray[i]? = some o) : ∀ c, o.op ≠ .defer c := by
  intro c e
  have := List.all_eq_true.1 h o (List.mem_of_getElem? (by simpa using ho))
  rw [e] at this
  cases this
theorem opIn_round {o : Oper} {a : Act} {w : World} {K : Act → World → Prop} (l : Nat) (h : ∀ c, o.op ≠ .defer c) (hh : o.wpIn F n P a w K Q) : o.wpIn (F.inRound l) n P a w K Q := by
  unfold Oper.wpIn at *
  refine ⟨hh.1, ?_⟩
  have h2 := hh.2
  rw [Oper.semAt_eq F.round _ _ h] at h2
  rw [Oper.semAt_eq (F.inRound l).round _ _ h]
  exact h2
theorem anyIn_round (l : Nat) (hno : ∀ (i : Nat) (o : Oper), ops[i]? = some o → ∀ c, o.op ≠ .defer c) : ∀ (fuel : Nat) (listed : Array Bool) (a : Act) (w : World), wpAnyIn F n P md ops Q fuel listed a w → wpAnyIn (F.inRound l) n P md ops Q fuel listed a w
  | 0, _, _, _, h => h
  | fuel + 1, listed, a, w, h => ⟨h.1, fun i hi => by
    have h2 := h.2 i hi
    have h3 := wpOpIn_mono (fun a w h => anyIn_round l hno fuel _ a w h) h2
    revert h3
    unfold wpOpIn
    split
    · exact id
    · rename_i o ho
      split
      · exact fun h3 => opIn_round l (hno i o ho) h3
      · exact id⟩
/-- One walk of the lexical order serves every order, in a round. -/
theorem wpIn_region_quiet_round {id : Nat} {a : Act} {w : World} {l : List Oper} (r : Nat) (hro : F.round = none) (hm : P.follows .mixedOrders = true) (hB : (Region.lexB .any l.toArray && noDefer l) = true)
    (h : wpQuietIn F n P l.toArray (fun w' => ∃ n, w' = w.drewN n) (fun a' => ∀ w', (∃ n, w' = w.drewN n) → Q .normal a' w') l a) : (Code.region id l.toArray true).wpIn (F.inRound r) n P Q a w := by
  rw [Bool.and_eq_true] at hB
  obtain ⟨hB, hD⟩ := hB
  simp only [Region.lexB, Bool.and_eq_true] at hB
  refine wpIn_region_any hm (anyIn_round r (fun i o ho => noDefer_at hD ho) _ _ _ _ ?_)
  refine wpAnyIn_of_quiet (C := fun w' => ∃ n, w' = w.drewN n) (Q := fun a' => ∀ w', (∃ n, w' = w.drewN n) → Q .normal a' w') hro (fun _ w' hw' h => h w' hw') _ _ _ _ ⟨1, rfl⟩ ?_
  have := wpAnyQIn_lex (F := F) (n := n) (C := fun w' => ∃ n, w' = w.drewN n) (md := .any) hB.1 l.toArray.toList 0 (Array.replicate l.toArray.size false) a (by simp) (by simpa using hB.2) (by simpa using h)
  simpa using this
/-- A struct is loaded out of the middle of a row. -/
theorem wpQuietIn_load_mid {Q : Act → Prop} {a : Act} {o : Oper} {rest : List Oper} (hw : Region.wanted o (yielded ops a.tmps) = true) (ty : TypeId) (x : Operand) (ho : o.op = .load ty x)
    (b off : Nat) (hx : a.eval x = .pointer (some ⟨b, off, none⟩)) (cs : List Value) (d : TypeDesc) (hc : ∀ w, C w → w.rangeAt b off cs)
    (hu : P.underlying ty = some d) (hd : d.isRow = true) (hi : (P.info? ty).map (·.size) = some cs.length)
    (h : wpQuietIn F n P ops C Q rest (a.put o.dst (.agg cs.toArray))) : wpQuietIn F n P ops C Q (o :: rest) a := by
  refine ⟨?_, ?_⟩
  · intro w _ f hf
    simp [Oper.about, ho] at hf
  · rw [if_pos hw]
    refine ⟨.agg cs.toArray, fun w hw' => ?_, h⟩
    unfold Oper.quietAtIn execOp
    simp only [ho, hx, run_loadAt_mid w b off ty cs d (hc w hw') hu hd hi, Sem.run_bind, Sem.run_pure, Result.andThen_ok]
    exact ⟨rfl, rfl⟩
end
end Go.Proofs.YtjcgdenkmmgmfaaGreatDoor
namespace Go.Proofs.YtjcgdenkmmgmfaaGreatDoor
open Go.RowKit Go.Shelf Dsc
set_option linter.unusedVariables false
set_option linter.unusedSimpArgs false
attribute [local go_sem] Oper.semAt_some
/-- The sixth law, a loop variable in a block of its own, the act behind the assignment left open; a return and the end. -/
theorem rfH_ret {F : Fence} {n : Nat} {P : Program} {α : Type} {g : Operand} {ps : Array Tmp} {assign body : Code} {Q : Exit → Act → World → Prop} {a : Act} {w : World}
    (hro : F.round = none) (h1 : 1 ≤ n) {gf : Nat} {lb : Array Value} (hg : a.eval g = .func (.func gf) #[] lb) (hFg : F.fn gf) (eg : ∀ args w, (callFunc gf args).run P w = .ok (.enter gf args) w)
    {encs : α → Array Value} {Kp : World → World → Prop} {S Sp : List α → Prop} {N : Nat} {w0 : World} (hseq : SeqStopsK F (n - 1) P gf lb encs Kp S Sp N w0)
    (hKt : ∀ {A B C : World}, Kp A B → Kp B C → Kp A C) (hKb : ∀ (W : World) (l : Nat) (o o' : Obj), w.heap.size ≤ l → W.heap[l]? = some o → o.isCells = false → o.isWalk = false → Kp W (W.putObj l o')) (hb0 : Below w0.heap.size w0 w) (hps : ∀ x, (encs x).size = ps.size)
    (row : α → Array Value) (T : TypeId) (I Ix : List α → World → Prop) (hI : OwnFrom w.heap.size I) (hIx : OwnFrom w.heap.size Ix) (h0 : I [] w)
    (hab : ∃ A : α → Nat → Act, (∀ (l : Nat) (pre : List α) (x : α) (W : World) (K : Act → World → Prop), I pre W → (∀ Bx W', KeepsFrom w.heap.size W W' → Kp W W' → I pre W' → w.heap.size ≤ Bx → W'.heap[Bx]? = some (.cells (row x) T (0, 0)) → K (A x Bx) W') →
      assign.wpIn (F.inRound l) (n - 1 - 1) P (Exit.then K (fun _ _ _ => False)) { tmps := (ps.zip (encs x)).foldl (fun t (p, v) => t.setIfInBounds p v) a.tmps, defers := [] } W) ∧
      (∀ (l : Nat) (pre : List α) (x : α) (Bx : Nat) (W : World), I pre W → w.heap.size ≤ Bx → W.heap[Bx]? = some (.cells (row x) T (0, 0)) → pre.length < N → body.wpIn (F.inRound l) (n - 1 - 1) P (ownPostG w.heap.size Kp I (fun c pre W => c = .ret ∧ Ix pre W) (pre ++ [x]) W) (A x Bx) W))
    (hdone : ∀ (D : Nat) (xs : List α) (W : World), w.heap.size ≤ D → S xs → I xs W → W.heap[D]? = some (.deferred (some [])) → Q .normal { a with defers := { target := .collected D, args := #[] } :: a.defers } W)
    (hstop : ∀ (D : Nat) (pre : List α) (W : World), w.heap.size ≤ D → Sp pre → Ix pre W → W.heap[D]? = some (.deferred (some [])) → Q .ret { a with defers := { target := .collected D, args := #[] } :: a.defers } W) :
    (Code.rangeFunc g ps assign body).wpIn F n P Q a w := by
  obtain ⟨A, ha, hb⟩ := hab
  refine wpIn_rangeFunc_ownH hro h1 hg hFg eg hseq hKt hKb hb0 hps I (fun c pre W => c = .ret ∧ Ix pre W) hI ?_ h0 (fun x a' W => ∃ Bx, w.heap.size ≤ Bx ∧ W.heap[Bx]? = some (.cells (row x) T (0, 0)) ∧ a' = A x Bx) ?_ ?_ ?_ hdone ?_
  · rintro c s A B row ⟨h1, h2⟩ hg hr
    exact ⟨h1, hIx s A B row h2 hg hr⟩
  · rintro x a' s A B r ⟨Bx, e1, e2, e3⟩ hg hr
    refine ⟨Bx, e1, (hg.block Bx (Array.getElem?_eq_some_iff.1 e2).1 (fun e => ?_)).trans e2, e3⟩
    obtain ⟨-, o, h1, h2⟩ := hr Bx e.symm
    rw [e2] at h1; cases h1; cases h2
  · intro l pre x W K hi hK
    exact ha l pre x W K hi (fun Bx W' k1 k2 k3 k4 k5 => hK _ _ k1 k2 k3 ⟨Bx, k4, k5, rfl⟩)
  · rintro l pre x a' W hl hr hi ⟨Bx, e1, e2, rfl⟩ hlt
    exact hb l pre x Bx W hi e1 e2 hlt
  · rintro D c pre W hD hSp ⟨rfl, h2⟩ hK
    exact wpIn_ret (hstop D pre W hD hSp h2 hK)
theorem results_cell1 {P : Program} {fn : Func} {q : Tmp} {tq : TypeId} (h : fn.results = #[.cell q tq]) (tmps : Array Value) (w : World) (g2 : Nat) (v : Value) (t2 : TypeId) (fr2 : Nat × Nat) (d2 : TypeDesc)
    (hq : tmps.getD q undef = .pointer (some ⟨g2, 0, none⟩)) (hg2 : w.heap[g2]? = some (.cells #[v] t2 fr2)) (hu2 : P.underlying tq = some d2) (hd2 : (match d2 with | .struct _ | .array _ _ => true | _ => false) = false) :
    (results fn tmps).run P w = .ok v w := by
  have hq' : tmps[q]?.getD undef = .pointer (some ⟨g2, 0, none⟩) := by simpa using hq
  have hc : w.cell? ⟨g2, 0, none⟩ = some v := (cell_of_row _ _ 0 _ _ _ hg2).trans rfl
  have hl : (loadVar tq ⟨g2, 0, none⟩).run P w = .ok v w := by
    unfold loadVar
    rw [Sem.run_bind, run_isAgg_plain hu2 hd2]
    simp [Result.andThen, hc]
  simp [results, h, hq', asAddr, hl]
theorem run_equalIn_func_nil {P : Program} (t : TypeId) (d : TypeDesc) (hd : P.underlying t = some d) (hf : (match d with | .func .. => true | _ => false) = true) (f : Fn) (a b : Array Value) (w : World) (k : Nat) : (Op.equalIn (k + 1) t (.func f a b) .nilFunc).run P w = .ok false w := by
  cases d <;> simp at hf
  simp [Op.equalIn, run_underlying hd]
theorem run_eql_func_nil {P : Program} (t : TypeId) (d : TypeDesc) (hd : P.underlying t = some d) (hf : (match d with | .func .. => true | _ => false) = true) (f : Fn) (a b : Array Value) (w : World) : (binOp .eql t (.func f a b) .nilFunc).run P w = .ok (.bool false) w := by
  simp only [binOp]
  simp [Op.equal, Op.maxDepth, run_equalIn_func_nil t d hd hf f a b w 9999]
theorem BytesV.keepTL {B : Nat → Prop} {w : World} {v : Value} {l : List (BitVec 8)} (h : BytesV w v l) (y : KeepT B w) (hn : Off B v) : BytesV y.val v l := by
  obtain ⟨a, c, rfl, h0, h1, h2, h3⟩ := h
  refine ⟨a, c, rfl, h0, h1, h2, ?_⟩
  rcases h3 with h | ⟨b, o, rfl, h⟩
  · exact .inl h
  · refine .inr ⟨b, o, rfl, fun i hi => ?_⟩
    rw [List.getElem?_eq_getElem hi]
    exact y.cell ((h i hi).trans (List.getElem?_eq_getElem hi)) (hn b o _ _ rfl)
theorem off_bool {w : World} {u : Value} {l : List (BitVec 8)} {k : Nat} {b : Bool} {t : TypeId} {fr : Nat × Nat} (h : BytesV w u l) (hl : 0 < l.length) (hk : w.heap[k]? = some (.cells #[.bool b] t fr)) : Off (fun j => j = k) u := fun g o n c e hg => by
  have hg' : g = k := hg
  subst hg'
  subst e
  obtain ⟨x, hx⟩ : ∃ x, l[0]? = some x := ⟨_, List.getElem?_eq_getElem hl⟩
  have h1 := BytesV.cellAt h hx
  rw [cell_of_row _ _ _ _ _ _ hk] at h1
  rw [Nat.add_zero] at h1
  cases o with
  | zero => simp at h1
  | succ o => simp at h1
theorem wp_noexit {P : Program} {c : Code} {K : Act → World → Prop} {Q : Exit → Act → World → Prop} {a : Act} {w : World} (h : c.wp P (Exit.then K (fun _ _ _ => False)) a w) : c.wp P (Exit.then K Q) a w :=
  Code.wp_mono (fun e a w h => by cases e <;> first | exact h | exact h.elim) h
/-- The blocks of looks while it goes over all entries. -/
structure LkSt (w0 : World) (q : Nat) (lv : Value) (g : BitVec 64) (n : Int) (W : World) : Prop where
  m : W.heap[q]? = some (.cells #[lv, .int .u64 (uv g)] 32 (0, 0))
  r : W.heap[q + 1]? = some (.cells #[.bool false] 4 (0, 0))
  n : W.heap[q + 2]? = some (.cells #[.int .i64 n] 3 (0, 0))
  bel : Below w0.heap.size w0 W
theorem LkSt.grown {w0 : World} {q : Nat} {lv : Value} {g : BitVec 64} {n : Int} {W W2 : World} {row : Option Nat} {B : Nat} (h : LkSt w0 q lv g n W) (hq : w0.heap.size ≤ q) (hg : W.grownBy W2 row) (hB : q + 2 < B) (hr : ∀ r, row = some r → B ≤ r) : LkSt w0 q lv g n W2 :=
  ⟨(hg.block _ (Array.getElem?_eq_some_iff.1 h.m).1 (fun e => by have := hr _ e.symm; omega)).trans h.m, (hg.block _ (Array.getElem?_eq_some_iff.1 h.r).1 (fun e => by have := hr _ e.symm; omega)).trans h.r, (hg.block _ (Array.getElem?_eq_some_iff.1 h.n).1 (fun e => by have := hr _ e.symm; omega)).trans h.n, h.bel.grown hg h.bel.size (fun k hk => by have := hr k hk; omega)⟩
theorem LkSt.next {w0 : World} {q : Nat} {lv : Value} {g : BitVec 64} {n m : Int} {W : World} (h : LkSt w0 q lv g n W) (hq : w0.heap.size ≤ q) (k : Nat) : LkSt w0 q lv g m ((W.drewN k).setCell ⟨q + 2, 0, none⟩ (.int .i64 m)) := by
  have hb : Below w0.heap.size w0 (W.drewN k) := ⟨h.bel.os, h.bel.tape, h.bel.output, h.bel.size, h.bel.block⟩
  refine ⟨?_, ?_, heap_setCell_same _ _ _ _ _ _ (show (W.drewN k).heap[q + 2]? = _ from h.n), hb.setCell (p := ⟨q + 2, 0, none⟩) (by simp; omega) _⟩
  · rw [heap_setCell_other _ _ _ _ (show q ≠ q + 2 by omega)]; exact h.m
  · rw [heap_setCell_other _ _ _ _ (show q + 1 ≠ q + 2 by omega)]; exact h.r
theorem LkSt.below {w0 : World} {q : Nat} {lv : Value} {g : BitVec 64} {n : Int} {W W2 : World} (h : LkSt w0 q lv g n W) (hb : Below W.heap.size W W2) : LkSt w0 q lv g n W2 :=
  ⟨blk_below h.m hb, blk_below h.r hb, blk_below h.n hb, gr_tr h.bel hb⟩
set_option maxHeartbeats 6400000 in
set_option maxRecDepth 20000 in
theorem looks_at (w0 : World) (p : Nat) (es : List Ent) (g : BitVec 64) (lv : Value) (hvs : List Value) (host : List (BitVec 8)) (w : World) (hd : DirS w0 p es g w) (hr : RefAt w es lv hvs) (hl : host.length ≤ 9223372036854775807) :
    Calls Tryz.prog 15 #[.pointer (some ⟨p, 0, none⟩), .agg #[lv, .int .u64 (uv g)], .string (strOf host)] w fun e w' => e = .returned (.bool true) ∧ Below w.heap.size w w' := by
  obtain ⟨dv, dhs, d1, d2, d3, d4, d5⟩ := hd
  obtain ⟨st, hst⟩ : ∃ s, strOf host = s := ⟨_, rfl⟩
  have HST := Lib.hid hst
  rw [hst]
  obtain ⟨W, hW⟩ : ∃ W, W = ((w.alloc (.cells #[lv, .int .u64 (uv g)] 32)).alloc (.cells #[.bool false] 4)).alloc (.cells #[.int .i64 0] 3) := ⟨_, rfl⟩
  have ST0 := Lib.hid (show LkSt w w.heap.size lv g 0 W by
    refine ⟨?_, ?_, ?_, ?_⟩
    · rw [hW]; exact blk_below (blk_below (heap_alloc_new w _) (gr_alloc _ _)) (gr_alloc _ _)
    · rw [hW]
      have h := heap_alloc_new (w.alloc (.cells #[lv, .int .u64 (uv g)] 32)) (.cells #[.bool false] 4)
      rw [World.size_alloc] at h
      exact blk_below h (gr_alloc _ _)
    · rw [hW]
      have h := heap_alloc_new ((w.alloc (.cells #[lv, .int .u64 (uv g)] 32)).alloc (.cells #[.bool false] 4)) (.cells #[.int .i64 0] 3)
      rw [World.size_alloc, World.size_alloc] at h
      exact h
    · rw [hW]; exact gr_tr (gr_tr (gr_alloc w _) (gr_alloc _ _)) (gr_alloc _ _))
  have WS := Lib.hid (show W.heap.size = w.heap.size + 3 by rw [hW]; simp)
  have DD := Lib.hid d1; have RR := Lib.hid hr; have HLEN := Lib.hid d2; have OKS := Lib.hid d3
  have HW := Lib.hid hW
  refine callsIn_wide.1 (callsIn_of_wp_marks (F := Fence.wide) (n := 8) Tryz.func15 rfl trivial ?_)
  simp only [Tryz.ntmps15, List.size_toArray, List.length_cons, List.length_nil, Nat.reduceAdd, Nat.reduceSub, Array.replicate_succ, Array.replicate_zero, List.push_toArray, List.append_toArray, List.nil_append, List.cons_append]
  refine wpIn_wide.2 ?_
  let FT : Exit → Act → World → Prop := bodyPost Tryz.prog Tryz.f15 (fun _ _ => True)
  go_upto_region 2 with fail
  rw [← HW.out]
  clear HW hW hst
  obtain ⟨q, hq⟩ : ∃ x, w.heap.size = x := ⟨_, rfl⟩
  have HQ := Lib.hid hq
  rw [hq] at ST0 WS
  rw [show (Value.pointer (some ⟨w.heap.size, 0, none⟩)) = Value.pointer (some ⟨q, 0, none⟩) by rw [hq], show (Value.pointer (some ⟨w.heap.size + 1, 0, none⟩)) = Value.pointer (some ⟨q + 1, 0, none⟩) by rw [hq], show (Value.pointer (some ⟨w.heap.size + 1 + 1, 0, none⟩)) = Value.pointer (some ⟨q + 2, 0, none⟩) by rw [hq]]
  have hfn := fun (b : Nat) w => run_eql_func_nil (P := Tryz.prog) 49 _ Tryz.underlying49 rfl (.func 28) #[] #[.pointer (some ⟨b, 0, none⟩)] w
  have ALLC := Lib.hid (fun w' h => All_at p es g dv dhs w' h HLEN.out)
  clear hq d1 d2 d3 hr
  go_upto_region 6 with (go_at_call 10; go_loud (refine (ALLC.out _ (DD.out.below ST0.out.bel)).mono ?_; rintro e w1 ⟨u, rfl, h1, h2, hb⟩; have U1 := Lib.hid h1; have O1 := Lib.hid h2; have S1 := Lib.hid (ST0.out.below hb); have B1 := Lib.hid hb; clear h1 h2 hb))
  clear hfn
  have hz : ((es.map (·.r)).zip dhs).length = es.length := by rw [List.length_zip, List.length_map, DD.out.len]; omega
  obtain ⟨zs, hzs⟩ : ∃ z, ((es.map (·.r)).zip dhs) = z := ⟨_, rfl⟩
  rw [hzs] at hz O1
  obtain ⟨n, hn⟩ : ∃ n, es.length = n := ⟨_, rfl⟩
  rw [hn] at hz O1
  have O2 := O1.out
  rw [← hz] at O2
  have SU := Lib.hid (SliceV.of_own (f := entC) (k := 11) (by decide) entC_len O2)
  have HN := Lib.hid hn; have HZ := Lib.hid hz
  have HZG := Lib.hid (show ∀ (i : Nat) (e : Ent), es[i]? = some e → rcOf zs i = e.r.cells.toArray from fun i e he => by
    obtain ⟨hv, -, h2⟩ := DD.out.get i e he
    rw [hzs] at h2
    unfold rcOf; rw [h2])
  have HON := Lib.hid (show ∀ x ∈ zs, (entC x).toArray.all (·.oneCell') = true from fun x hx => by
    rw [Array.all_eq_true_iff_forall_mem]
    intro v hv
    exact DD.out.ones v (by rw [hzs]; exact List.mem_flatMap.2 ⟨x, hx, by simpa using hv⟩))
  obtain ⟨B, hB⟩ : ∃ x, W.heap.size = x := ⟨_, rfl⟩
  rw [hB] at U1 WS O1 ⊢
  have OL := Lib.hid (show ∀ k, u.ownBlock = some k → B + 1 ≤ k ∧ k < w1.heap.size from fun k hk => O1.out.lt k hk)
  have QL := Lib.hid (show B = q + 3 from WS.out)
  have BL := Lib.hid (show B < w1.heap.size from (Array.getElem?_eq_some_iff.1 U1.out).1)
  have RCS := Lib.hid (show ∀ i, i < n → (rcOf zs i).size = 10 ∧ (rcOf zs i).all (·.oneCell') = true from fun i hi => by
    obtain ⟨e, he⟩ : ∃ e, es[i]? = some e := ⟨_, List.getElem?_eq_getElem (by rw [hn]; exact hi)⟩
    rw [HZG.out i e he]
    exact ⟨rfl, by simp [Dsc.Rec.cells, Value.oneCell']⟩)
  clear O2 hz hn hzs hB FT
  refine (wpIn_wide (n := 8)).1 ?_
  refine rfH_ret (F := Fence.wide) (n := 8) rfl (by omega) (gf := 28) (lb := #[.pointer (some ⟨B, 0, none⟩)]) rfl trivial (enters_of Tryz.func28 (by kernel_rfl) rfl)
    (All_stops 7 (by omega) n u zs B w1 BL.out U1.out SU.out HZ.out (by rw [← HN.out]; exact HLEN.out) (fun k hk => (OL.out k hk).2) HON.out)
    (fun h1 h2 k hk => (h2 k hk).trans (h1 k hk)) (fun W1 l o o' hl _ _ _ k hk => World.putObj_heap_other (by have := (OL.out k hk).2; omega)) (Below.refl _ _) (fun _ => rfl)
    (fun x => rcOf zs x.val) 37
    (fun pre X => LkSt w q lv g (pre.length : Int) X ∧ pre.map (·.val) = List.range pre.length ∧ w1.heap.size ≤ X.heap.size)
    (fun pre X => ¬ (pre.map (·.val) = List.range pre.length))
    ?hI ?hIx ⟨S1.out, rfl, Nat.le_refl _⟩ ?ab ?done ?stop
  case hI =>
    rintro s X Y row ⟨h1, h2, h3⟩ hg hr
    exact ⟨h1.grown (Nat.le_of_eq HQ.out) hg (B := w1.heap.size) (by have := BL.out; have := QL.out; omega) (fun r e => (hr r e).1), h2, Nat.le_trans h3 hg.size⟩
  case hIx =>
    rintro s X Y row h hg hr
    exact h
  case ab =>
    apply Exists.intro
    apply And.intro
    case left =>
      rintro l pre x X K ⟨h1, h2, h3⟩ hK
      have XL := Lib.hid h3
      have HI := Lib.hid h1; have HV := Lib.hid h2; have HKK := Lib.hid hK
      obtain ⟨RS, RO⟩ := RCS.out x.val x.isLt
      have RSH := Lib.hid RS; have ROH := Lib.hid RO
      obtain ⟨rc, hrc⟩ : ∃ r, rcOf zs x.val = r := ⟨_, rfl⟩
      have HRC := Lib.hid hrc
      rw [hrc] at RSH ROH ⊢
      clear h1 h2 h3 hK RS RO hrc
      gi_wp2_with (refine wpListIn_store_new rfl 37 (.tmp 10) (.tmp 25) rfl rc 37 _ rfl rfl (by rw [RSH.out]; kernel_rfl) (by rw [RSH.out]; rfl) ROH.out ?_; intro X6 h6 hb; have Y6 := Lib.hid h6; have B6 := Lib.hid hb; clear h6 hb)
      have hk := HKK.out X.heap.size X6 ((ko_below B6.out).from _) (fun k hk => B6.out.block k (by have := (OL.out k hk).2; have := XL.out; omega)) ⟨HI.out.below B6.out, HV.out, Nat.le_trans XL.out B6.out.size⟩ XL.out (by rw [HRC.out]; exact Y6.out)
      have hrc := HRC.out
      subst hrc
      obtain ⟨Bx, hBx⟩ : ∃ b, X.heap.size = b := ⟨_, rfl⟩
      rw [hBx] at hk ⊢
      exact hk
    case right =>
      rintro l pre ⟨k, hkn⟩ Bx X ⟨h1, h2, h3⟩ hBx hrow hlt
      have HI := Lib.hid h1; have HV := Lib.hid h2; have XL := Lib.hid h3
      obtain ⟨e, he⟩ : ∃ e, es[k]? = some e := ⟨_, List.getElem?_eq_getElem (by rw [HN.out]; exact hkn)⟩
      have hrc : rcOf zs k = e.r.cells.toArray := HZG.out k e he
      have hrow' : X.heap[Bx]? = some (.cells e.r.cells.toArray 37 (0, 0)) := by rw [← hrc]; exact hrow
      have HROW := Lib.hid hrow'
      obtain ⟨al, cl, hlv⟩ : ∃ a c, lv = .slice a es.length c := own_shape RR.out.own
      obtain ⟨hv, g1, g2⟩ := RR.out.get k e he
      obtain ⟨gq, o, cq, he1, hr1⟩ := SliceV.rng entC_len RR.out.slice k (e.r, hv) g2 (by decide)
      have hzl : ((es.map (·.r)).zip hvs).length = n := by rw [List.length_zip, List.length_map, RR.out.len, HN.out]; omega
      rw [hzl] at he1
      subst he1
      have R1 := Lib.hid (rng_below (rng_sub0 hr1) HI.out.bel)
      have cm : X.cell? ⟨q, 0, none⟩ = some (.slice (some ⟨gq, o, none⟩) n cq) := (cell_of_row _ _ 0 _ _ _ HI.out.m).trans rfl
      have c7 : X.cell? ⟨q + 2, 0, none⟩ = some (.int .i64 (pre.length : Int)) := (cell_of_row _ _ 0 _ _ _ HI.out.n).trans rfl
      have heq := fun w => rec_neq e.r e.r w
      rw [same_self] at heq
      have CLL := Lib.hid (rec_len e.r)
      have RNG := Lib.hid (show X.rangeAt Bx 0 e.r.cells from fun j v hj => by
        rw [Nat.zero_add]
        refine (cell_of_row _ _ j _ _ _ HROW.out).trans ?_
        rw [List.getElem?_toArray, hj])
      obtain ⟨cl2, hcl⟩ : ∃ c, e.r.cells = c := ⟨_, rfl⟩
      rw [hcl] at R1 CLL RNG heq
      clear h1 h2 h3 hrow hrow' hrc g1 g2 hr1 hzl hcl he HROW hlv
      have z7 := frozen_of_row _ _ 0 _ _ HI.out.n
      by_cases hkp : k = pre.length
      · have HKP := Lib.hid hkp
        have hc7 : X.cell? ⟨q + 2, 0, none⟩ = some (.int .i64 (k : Int)) := by rw [hkp]; exact c7
        clear c7 hkp
        have hk256 : (k : Int) ≤ 256 := by have := HLEN.out; have := HN.out; omega
        have hnk : decide (n ≤ k) = false := decide_eq_false (by omega)
        have hnk2 : ¬ (n ≤ k) := by omega
        gi_wp2
        refine wpIn_region_quiet_round l rfl (by kernel_rfl) (by kernel_rfl) ?_
        repeat (quiet_step_in (fail))
        refine wpQuietIn_load_mid rfl 37 (.tmp 10) rfl Bx 0 rfl cl2 _ (by rintro _ ⟨nq, rfl⟩ j v hj; exact RNG.out j v hj) Tryz.underlying37 rfl (by rw [CLL.out]; kernel_rfl) ?_
        repeat (quiet_step_in (fail))
        refine wpQuietIn_load_mid rfl 37 (.tmp 42) rfl gq (o + k * 11) rfl cl2 _ (by rintro _ ⟨nq, rfl⟩ j v hj; exact R1.out j v hj) Tryz.underlying37 rfl (by rw [CLL.out]; kernel_rfl) ?_
        repeat (quiet_step_in (fail))
        refine wpQuietIn_nil ?_
        rintro _ ⟨nq, rfl⟩
        clear heq
        gi_wp2
        refine ⟨?_, ?_, ?_, ?_, ?_⟩
        · exact ((show KeepsOthers X (X.drewN nq) from ⟨Nat.le_refl _, fun _ _ h _ => h⟩).trans (KeepsOthers.setCell _ _ _)).from _
        · intro kk hkk
          have := (OL.out kk hkk).1
          exact heap_setCell_other _ _ _ _ (show kk ≠ q + 2 by have := QL.out; omega)
        · have h9 := HI.out.next (m := (k : Int) + 1) (Nat.le_of_eq HQ.out) nq
          rw [List.length_append, ← HKP.out]
          exact h9
        · rw [List.map_append, List.length_append, HV.out, ← HKP.out]
          show List.range k ++ [k] = List.range (k + 1)
          rw [List.range_succ]
        · exact Nat.le_trans XL.out (KeepsOthers.setCell (X.drewN nq) _ _).size
      · have hne : ((k : Int) != (pre.length : Int)) = true := by simp; omega
        have HKP := Lib.hid hkp
        clear hkp
        have c6 : X.cell? ⟨q + 1, 0, none⟩ = some (.bool false) := (cell_of_row _ _ 0 _ _ _ HI.out.r).trans rfl
        have z6 := frozen_of_row _ _ 0 _ _ HI.out.r
        gi_wp2
        refine wpIn_region_quiet_round l rfl (by kernel_rfl) (by kernel_rfl) ?_
        repeat (quiet_step_in (fail))
        refine wpQuietIn_nil ?_
        rintro _ ⟨nq, rfl⟩
        gi_wp2
        refine ⟨?_, rfl, ?_⟩
        · exact ((show KeepsOthers X (X.drewN nq) from ⟨Nat.le_refl _, fun _ _ h _ => h⟩).trans (KeepsOthers.setCell _ _ _)).from _
        · intro hq
          rw [List.map_append, List.length_append] at hq
          have h9 := congrArg (fun l => l[pre.length]?) hq
          simp at h9
          exact HKP.out h9
  case done =>
    rintro D xs X hD hS ⟨h1, h2, h3⟩ hK
    have hxn : xs.length = n := by have := congrArg List.length hS; simpa using this
    rw [hxn] at h1
    have HI := Lib.hid h1; have XL := Lib.hid h3; have HKD := Lib.hid hK; have HD := Lib.hid hD
    obtain ⟨al, cl, hlv⟩ : ∃ a c, lv = .slice a es.length c := own_shape RR.out.own
    rw [HN.out] at hlv
    subst hlv
    obtain ⟨E, hE⟩ : ∃ E, seenE host = E := ⟨_, rfl⟩
    obtain ⟨L, hL⟩ : ∃ L, seenR es host = L := ⟨_, rfl⟩
    obtain ⟨PB, hPB⟩ : ∃ B, lgB es g host = B := ⟨_, rfl⟩
    obtain ⟨RB, hRB⟩ : ∃ B, logR g L = B := ⟨_, rfl⟩
    have hLE : lgE es host = E := by
      cases hb : nmOk host
      · rw [← hE]; unfold lgE seenE; rw [hb]; rfl
      · rw [← hE, log_fine HLEN.out OKS.out hb]; unfold seenE; rw [hb]; rfl
    have hE0 : logE L = 0 := by
      cases hb : nmOk host
      · rw [← hL]; unfold seenR; rw [hb]; rfl
      · have h9 := log_fine HLEN.out OKS.out hb
        unfold lgE at h9
        rw [hb] at h9
        rw [← hL]; unfold seenR; rw [hb]; exact h9
    have hFit : ∀ r ∈ L, r.Fit := by
      intro r hr
      rw [← hL] at hr
      unfold seenR at hr
      split at hr
      · obtain ⟨e, he, rfl⟩ := seen_mem hr
        exact RR.out.fits e he
      · cases hr
    have HB0 := Lib.hid (show E = 0 → PB = RB ∧ 0 < RB.length from fun h => by
      have hb : nmOk host = true := by
        cases hb : nmOk host
        · rw [← hE] at h; unfold seenE at h; rw [hb] at h; exact absurd h (by decide)
        · rfl
      have e1 : seenL es host = L := by rw [← hL]; unfold seenR; rw [hb]; rfl
      refine ⟨by rw [← hPB, ← hRB]; unfold lgB; rw [hb, e1]; rfl, ?_⟩
      rw [← hRB]
      unfold logR
      rw [if_pos hE0, logB_len (logE_ok hE0).2]
      omega)
    have HB2 := Lib.hid (show E ≠ 0 → PB = [] from fun h => by
      have hb : nmOk host = false := by
        cases hb : nmOk host
        · rfl
        · rw [← hE] at h; unfold seenE at h; rw [hb] at h; exact absurd rfl h
      rw [← hPB]; unfold lgB; rw [hb]; rfl)
    have SEE := Lib.hid (fun w' h => Seen_at p es g dv dhs host E L w' h HLEN.out hl hE hL)
    have RSE := Lib.hid (fun w' h => rSeen_at es g (.slice al n cl) hvs host E L w' h HLEN.out hl hE hL)
    have LGC := Lib.hid (fun w' h => Log_at p es g dv dhs host E PB w' h HLEN.out hl hLE hPB)
    have REN := Lib.hid (fun v w' h => rEncode_at g v L 0 RB w' h hFit hE0 hRB)
    have SAM := Lib.hid (fun v1 v2 w h1 h2 => Same_eq v1 v2 L w h1 h2)
    have GEN := Lib.hid (fun w' h => Gen_at p es g dv dhs w' h)
    rw [HST.out] at SEE RSE LGC
    clear hE hL hPB hRB hLE hE0 hFit hxn h1 h2 h3 hK hS hD
    go_upto_region 14 with (first
      | (refine wpList_load_row rfl 32 (.tmp 4) rfl q rfl 32 #[.slice al n cl, .int .u64 (uv g)] (0, 0) _ S2.out.m Tryz.underlying32 rfl (by kernel_rfl) ?_)
      | (go_at_call 8; go_loud (refine (SEE.out _ (DD.out.below HI.out.bel)).mono ?_; rintro e w2 ⟨u2, rfl, ho, hb⟩; have A2 := Lib.hid (SliceV.of_own (f := Dsc.Rec.cells) (k := 10) (by decide) (fun _ => rfl) (xs := L) ho); obtain ⟨a2, c2, rfl⟩ := own_shape ho; have S2 := Lib.hid (HI.out.below hb); have C2 := Lib.hid hb; clear ho hb))
      | (go_at_call 35; go_loud (refine (RSE.out _ (RR.out.below S2.out.bel)).mono ?_; rintro e w3 ⟨a3, c3, rfl, hs, hb⟩; have A3 := Lib.hid (SliceV.below A2.out hb); have B3 := Lib.hid hs; have S3 := Lib.hid (S2.out.below hb); have C3 := Lib.hid (gr_tr C2.out hb); clear hs hb))
      | (go_at_call 9; go_loud (refine (LGC.out _ (DD.out.below S3.out.bel)).mono ?_; rintro e w4 ⟨u4, rfl, hu, hb⟩; have A4 := Lib.hid (SliceV.below A3.out hb); have B4 := Lib.hid (SliceV.below B3.out hb); have U4 := Lib.hid hu; have S4 := Lib.hid (S3.out.below hb); have C4 := Lib.hid (gr_tr C3.out hb); clear hu hb)))
    have hee : (E != E) = false := by simp
    go_upto_region 16 with (go_at_call 19; go_loud (refine (SAM.out _ _ _ A4.out B4.out).mono ?_; rintro e w5 ⟨rfl, hb⟩; have B5 := Lib.hid (SliceV.below B4.out hb); have U5 := Lib.hid (U4.out.below hb); have S5 := Lib.hid (S4.out.below hb); have C5 := Lib.hid (gr_tr C4.out hb); clear hb))
    clear hee
    have x1 : w5.cell? ⟨q, 1, none⟩ = some (.int .u64 (uv g)) := (cell_of_row _ _ 1 _ _ _ S5.out.m).trans rfl
    go_upto_region 17 with (go_at_call 36; go_loud (refine (REN.out _ _ B5.out).mono ?_; rintro e w6 ⟨u6, rfl, ho, hb⟩; have V6 := Lib.hid (BytesV.of_own ho); have U6 := Lib.hid (U5.out.below hb); have S6 := Lib.hid (S5.out.below hb); have C6 := Lib.hid (gr_tr C5.out hb); clear ho hb))
    clear x1
    have q2 : ∀ y : KeepT (fun k => k = q + 1) w6, y.val.cell? ⟨q + 2, 0, none⟩ = some (.int .i64 (n : Int)) := fun y => y.cell ((cell_of_row _ _ 0 _ _ _ S6.out.n).trans rfl) (by omega)
    have qm0 : ∀ y : KeepT (fun k => k = q + 1) w6, y.val.cell? ⟨q, 0, none⟩ = some (.slice al n cl) := fun y => y.cell ((cell_of_row _ _ 0 _ _ _ S6.out.m).trans rfl) (by omega)
    have qm1 : ∀ y : KeepT (fun k => k = q + 1) w6, y.val.cell? ⟨q, 1, none⟩ = some (.int .u64 (uv g)) := fun y => y.cell ((cell_of_row _ _ 1 _ _ _ S6.out.m).trans rfl) (by omega)
    obtain ⟨gs, hgs⟩ : ∃ s, uv g = s := ⟨_, rfl⟩
    rw [hgs] at qm1 GEN
    have hgg : (gs == gs) = true := by simp
    clear hgs
    by_cases hE : E = 0
    · subst hE
      obtain ⟨hpr, hpos⟩ := HB0.out rfl
      subst hpr
      obtain ⟨sB, hsB⟩ : ∃ s, strOf PB = s := ⟨_, rfl⟩
      have O4 := off_bool U6.out hpos S6.out.r
      have O6 := off_bool V6.out hpos S6.out.r
      have hc4 : ∀ y : KeepT (fun k => k = q + 1) w6, (convert 45 9 u4).run Tryz.prog y.val = .ok (.string sB) y.val := fun y => by
        have h := run_string (BytesV.keepTL U6.out y O4)
        rw [hsB] at h; exact h
      have hc6 : ∀ y : KeepT (fun k => k = q + 1) w6, (convert 45 9 u6).run Tryz.prog y.val = .ok (.string sB) y.val := fun y => by
        have h := run_string (BytesV.keepTL V6.out y O6)
        rw [hsB] at h; exact h
      have hss : (sB.toList == sB.toList) = true := by simp
      clear hpos hsB O4 O6
      refine wp_noexit ?_
      refine wp_region_planW (fun k => k = q + 1) [(true, 0), (true, 1), (true, 2), (true, 3), (true, 4), (true, 5), (true, 6), (true, 8), (true, 9), (false, 7), (true, 10), (true, 11), (true, 12), (true, 13), (true, 14), (true, 15), (true, 16), (true, 17), (true, 18), (true, 19), (true, 20), (true, 21), (true, 22), (true, 23), (true, 24), (true, 25), (true, 26), (true, 27), (true, 28), (true, 29), (true, 30), (true, 31), (false, 32)] (by kernel_rfl) (by kernel_rfl) (by intro c a d v w h; cases d <;> exact h) ?_
      intro W7 K7 C7
      repeat (refine wpS_firm rfl (fun K hK => ?_); simp only [Keep]; go_simp; refine hK _ ?_; clear hK K)
      refine wpS_chain rfl ?_
      go_wp2_with (go_at_call 13; go_loud (refine (GEN.out _ (DD.out.below (gr_tr S6.out.bel C7.out))).mono ?_; rintro e wz ⟨rfl, rfl⟩))
      refine ⟨K7.out, ?_⟩
      repeat (refine wpS_firm rfl (fun K hK => ?_); simp only [Keep]; go_simp; refine hK _ ?_; clear hK K)
      clear q2 qm0 qm1 hgg hc4 hc6 hss
      have S7 := Lib.hid (S6.out.below C7.out)
      have c6 : W7.cell? ⟨q + 1, 0, none⟩ = some (.bool false) := (cell_of_row _ _ 0 _ _ _ S7.out.r).trans rfl
      have z6 := frozen_of_row _ _ 0 _ _ S7.out.r
      refine wpS_chain rfl ?_
      go_wp2
      refine ⟨K7.out.put (p := ⟨q + 1, 0, none⟩) rfl _, ?_⟩
      unfold wpS
      obtain ⟨V, hV⟩ : ∃ V, V = W7.setCell ⟨q + 1, 0, none⟩ (.bool true) := ⟨_, rfl⟩
      rw [← hV]
      have hdq : D ≠ q + 1 := by have := HD.out; have := BL.out; have := QL.out; omega
      have VD : V.heap[D]? = some (.deferred (some [])) := by rw [hV, heap_setCell_other _ _ _ _ hdq]; exact blk_below (blk_below HKD.out C6.out) C7.out
      have VR : (V.putObj D (.deferred none)).heap[q + 1]? = some (.cells #[.bool true] 4 (0, 0)) := (World.putObj_heap_other (Ne.symm hdq)).trans (by rw [hV]; exact heap_setCell_same _ _ _ _ _ _ S7.out.r)
      have VB : Below w.heap.size w (V.putObj D (.deferred none)) := by
        have h1 : Below w.heap.size w V := by rw [hV]; exact S7.out.bel.setCell (p := ⟨q + 1, 0, none⟩) (by have := HQ.out; simp; omega) _
        exact h1.grown (grownBy_putObj' V D _) h1.size (fun j e => by cases e; have := HD.out; have := BL.out; have := QL.out; have := HQ.out; omega)
      go_wp2
      refine ⟨by simp, .inl ⟨_, _, rfl, run_takeDeferred VD, ?_⟩⟩
      exact ⟨.bool true, results_cell1 rfl _ _ (q + 1) _ 4 (0, 0) _ rfl VR Tryz.underlying4 rfl, rfl, VB⟩
    · have hpb := HB2.out hE
      subst hpb
      have he1 : (E != 0) = true := by simpa using hE
      have he2 : (E == 0) = false := by simpa using hE
      obtain ⟨a4, c4, hu4, -⟩ := id U6.out
      subst hu4
      have HE := Lib.hid hE
      clear hE
      refine wp_noexit ?_
      refine wp_region_planW (fun k => k = q + 1) [(true, 0), (true, 1), (true, 2), (true, 3), (true, 4), (true, 5), (true, 6), (true, 8), (true, 9), (false, 7), (true, 10), (true, 11), (true, 12), (true, 13), (true, 14), (true, 15), (true, 16), (true, 17), (true, 18), (true, 19), (true, 20), (true, 21), (true, 22), (true, 23), (true, 24), (true, 25), (true, 26), (true, 27), (true, 28), (true, 29), (true, 30), (true, 31), (false, 32)] (by kernel_rfl) (by kernel_rfl) (by intro c a d v w h; cases d <;> exact h) ?_
      intro W7 K7 C7
      repeat (refine wpS_firm rfl (fun K hK => ?_); simp only [Keep]; go_simp; refine hK _ ?_; clear hK K)
      refine wpS_chain rfl ?_
      go_wp2_with (go_at_call 13; go_loud (refine (GEN.out _ (DD.out.below (gr_tr S6.out.bel C7.out))).mono ?_; rintro e wz ⟨rfl, rfl⟩))
      refine ⟨K7.out, ?_⟩
      repeat (refine wpS_firm rfl (fun K hK => ?_); simp only [Keep]; go_simp; refine hK _ ?_; clear hK K)
      clear q2 qm0 qm1 hgg he1 he2
      have S7 := Lib.hid (S6.out.below C7.out)
      have c6 : W7.cell? ⟨q + 1, 0, none⟩ = some (.bool false) := (cell_of_row _ _ 0 _ _ _ S7.out.r).trans rfl
      have z6 := frozen_of_row _ _ 0 _ _ S7.out.r
      refine wpS_chain rfl ?_
      go_wp2
      refine ⟨K7.out.put (p := ⟨q + 1, 0, none⟩) rfl _, ?_⟩
      unfold wpS
      obtain ⟨V, hV⟩ : ∃ V, V = W7.setCell ⟨q + 1, 0, none⟩ (.bool true) := ⟨_, rfl⟩
      rw [← hV]
      have hdq : D ≠ q + 1 := by have := HD.out; have := BL.out; have := QL.out; omega
      have VD : V.heap[D]? = some (.deferred (some [])) := by rw [hV, heap_setCell_other _ _ _ _ hdq]; exact blk_below (blk_below HKD.out C6.out) C7.out
      have VR : (V.putObj D (.deferred none)).heap[q + 1]? = some (.cells #[.bool true] 4 (0, 0)) := (World.putObj_heap_other (Ne.symm hdq)).trans (by rw [hV]; exact heap_setCell_same _ _ _ _ _ _ S7.out.r)
      have VB : Below w.heap.size w (V.putObj D (.deferred none)) := by
        have h1 : Below w.heap.size w V := by rw [hV]; exact S7.out.bel.setCell (p := ⟨q + 1, 0, none⟩) (by have := HQ.out; simp; omega) _
        exact h1.grown (grownBy_putObj' V D _) h1.size (fun j e => by cases e; have := HD.out; have := BL.out; have := QL.out; have := HQ.out; omega)
      go_wp2
      refine ⟨by simp, .inl ⟨_, _, rfl, run_takeDeferred VD, ?_⟩⟩
      exact ⟨.bool true, results_cell1 rfl _ _ (q + 1) _ 4 (0, 0) _ rfl VR Tryz.underlying4 rfl, rfl, VB⟩
  case stop =>
    rintro D pre X hD hS h hK
    exact absurd hS.1 h
end Go.Proofs.YtjcgdenkmmgmfaaGreatDoor
namespace Go.Proofs.YtjcgdenkmmgmfaaGreatDoor
open Go.RowKit
namespace Dsc
/-- No record stands twice. -/
def UQ (es : List Ent) : Prop := (es.map (·.r)).Nodup
theorem UQ.rem {es : List Ent} (h : UQ es) (r : Rec) : UQ (remS es r) := by
  unfold remS
  split
  · exact h
  · exact ((List.eraseIdx_sublist es _).map _).nodup h
theorem UQ.add {es : List Ent} (h : UQ es) (r : Rec) (hs : List (List (BitVec 8))) : UQ (addS es r hs) := by
  unfold addS
  split
  · rename_i h0
    have h1 := (addE_ok h0).2.2.2.2
    unfold UQ
    rw [List.map_append, List.nodup_append]
    refine ⟨h, by simp, ?_⟩
    intro a ha b hb
    obtain ⟨e, he, rfl⟩ := List.mem_map.1 ha
    simp at hb
    rw [hb]
    intro heq
    have h2 : es.findIdx (fun e => e.r.same r) < es.length := List.findIdx_lt_length.2 ⟨e, he, (same_iff _ _).2 heq⟩
    unfold ix at h1
    rw [if_pos h2] at h1
    omega
  · exact h
theorem UQ.ix {es : List Ent} (h : UQ es) {k : Nat} {e : Ent} (hk : es[k]? = some e) : ix es e.r = k := by
  obtain ⟨hl, rfl⟩ := List.getElem?_eq_some_iff.1 hk
  refine ix_at hl (same_self _) fun i hi => ?_
  cases hb : (es[i]'(by omega)).r.same (es[k]).r with
  | false => rfl
  | true =>
    have h1 := (same_iff _ _).1 hb
    have h2 := List.pairwise_iff_getElem.1 h i k (by simp; omega) (by simpa using hl) hi
    simp at h2
    exact absurd h1 h2
end Dsc
end Go.Proofs.YtjcgdenkmmgmfaaGreatDoor
namespace Go.Proofs.YtjcgdenkmmgmfaaGreatDoor
open Go.RowKit Dsc
set_option linter.unusedVariables false
set_option linter.unusedSimpArgs false
attribute [local go_sem] Oper.semAt_some
theorem DirAt.set {w w' : World} {p q : Nat} {es : List Ent} {g : BitVec 64} {lv : Value} {hvs : List Value} {cs : Array Value} {t : TypeId} {fr : Nat × Nat} (h : DirAt w p es g lv hvs) (hq : w.heap[q]? = some (.cells cs t fr)) (h1 : t ≠ 70) (h2 : t ≠ 29) (h3 : t ≠ 9) (hc : Chg (fun k => k = q) w w') : DirAt w' p es g lv hvs := by
  refine h.chg (mv := lv) (q := q) hc ?_ ?_ ?_
  · intro e
    have e' : p = q := e
    subst e'
    rw [h.blk] at hq
    injection hq with hq; injection hq with _ hq _
    exact h2 hq.symm
  · intro k hk e
    have e' : k = q := e
    subst e'
    exact own_apartB h.own hq (fun e => h1 e.symm) hk
  · intro i e hv x y k hk e'
    have e'' : k = q := e'
    subst e''
    exact own_apartB (h.el i e hv x y).2.1 hq (fun e => h3 e.symm) hk
/-- The hosts of the second list are those of the first, or new. -/
def FreshH (w : World) (hvs hvs' : List Value) : Prop := ∀ (i : Nat) (hv' : Value), hvs'[i]? = some hv' → hvs[i]? = some hv' ∨ ∀ b, hv'.ownBlock = some b → w.heap.size ≤ b
theorem Add_any2 (p : Nat) (es : List Ent) (g : BitVec 64) (lv : Value) (hvs : List Value) (r : Rec) (v : Value) (hs : List (List (BitVec 8))) (w : World) (hd : DirAt w p es g lv hvs) (hes : es.length ≤ 256) (hfit : r.Fit) (hv : SliceV w strC v hs) (hl : ∀ s ∈ hs, s.length ≤ 9223372036854775807) :
    Calls Tryz.prog 11 #[.pointer (some ⟨p, 0, none⟩), .agg r.cells.toArray, v] w fun e w' => e = .returned (.int .i64 (addE es r hs)) ∧ ∃ lv' hvs', DirAt w' p (addS es r hs) (addG es g r hs) lv' hvs' ∧ (lv'.ownBlock = lv.ownBlock ∨ ∃ b, lv'.ownBlock = some b ∧ w.heap.size ≤ b) ∧ FreshH w hvs hvs' ∧ Chg (DirB p lv) w w' := by
  by_cases h : addE es r hs = 0
  · refine (Add_ok p es g lv hvs r v hs w hd hes hfit hv hl h).mono ?_
    rintro e w' ⟨rfl, lv', hv', h1, h2, h3, h4⟩
    refine ⟨by rw [h], lv', hvs ++ [hv'], ?_, h2, ?_, h4⟩
    · unfold addS addG
      rw [if_pos h, if_pos h]
      exact h1
    · intro i hv2 hi2
      by_cases hi : i < hvs.length
      · rw [List.getElem?_append_left hi] at hi2; exact .inl hi2
      · rw [List.getElem?_append_right (by omega)] at hi2
        obtain ⟨j, hj⟩ : ∃ j, i - hvs.length = j := ⟨_, rfl⟩
        rw [hj] at hi2
        cases j with
        | zero =>
          simp at hi2
          subst hi2
          exact .inr h3
        | succ j => simp at hi2
  · refine (Add_no p es g lv hvs r v hs w hd hes hfit hv hl _ rfl h).mono ?_
    rintro e w' ⟨rfl, hb⟩
    refine ⟨rfl, lv, hvs, ?_, .inl rfl, fun i hv' h => .inl h, Chg.of_below hb⟩
    unfold addS addG
    rw [if_neg h, if_neg h]
    exact hd.below hb
/-- What a step leaves. -/
def DoPost (p : Nat) (es0 : List Ent) (dv : Value) (w : World) (e : Ending) (w' : World) : Prop :=
  ∃ es g dv' dhs lv hvs, e = .returned (.tuple #[.agg #[lv, .int .u64 (uv g)], .bool true]) ∧ DirAt w' p es g dv' dhs ∧ es.length ≤ 256 ∧ (∀ e ∈ es, e.r.ok = true) ∧ RefAt w' es lv hvs ∧ (dv'.ownBlock = dv.ownBlock ∨ ∃ b, dv'.ownBlock = some b ∧ w.heap.size ≤ b) ∧ Chg (DirB p dv) w w' ∧ (UQ es0 → UQ es)
theorem looks_d (p : Nat) (es : List Ent) (g : BitVec 64) (dv : Value) (dhs : List Value) (lv : Value) (hvs : List Value) (host : List (BitVec 8)) (w : World) (hd : DirAt w p es g dv dhs) (h2 : es.length ≤ 256) (h3 : ∀ e ∈ es, e.r.ok = true) (hr : RefAt w es lv hvs) (hl : host.length ≤ 9223372036854775807) :
    Calls Tryz.prog 15 #[.pointer (some ⟨p, 0, none⟩), .agg #[lv, .int .u64 (uv g)], .string (strOf host)] w fun e w' => e = .returned (.bool true) ∧ Below w.heap.size w w' := by
  obtain ⟨w0, hw0⟩ : ∃ w0 : World, w0 = { w with heap := #[] } := ⟨_, rfl⟩
  exact looks_at w0 p es g lv hvs host w ⟨dv, dhs, hd, h2, h3, by rw [hw0]; exact Nat.zero_le _, by rw [hw0]; exact ⟨rfl, rfl, rfl, Nat.zero_le _, fun k hk => by simp at hk⟩⟩ hr hl
set_option maxRecDepth 20000 in
set_option maxHeartbeats 6400000 in
theorem do_none (p : Nat) (es : List Ent) (g : BitVec 64) (dv : Value) (dhs : List Value) (al : Option Addr) (cl : Nat) (hvs : List Value) (x : Stp) (w : World) (hd : DirAt w p es g dv dhs) (h2 : es.length ≤ 256) (h3 : ∀ e ∈ es, e.r.ok = true) (hr : RefAt w es (Value.slice al es.length cl) hvs) (hl : x.h.length ≤ 9223372036854775807) (hk1 : x.kd ≠ 1) (hk2 : x.kd ≠ 2) :
    Calls Tryz.prog 7 #[.pointer (some ⟨p, 0, none⟩), .agg #[(Value.slice al es.length cl), .int .u64 (uv g)], .agg x.cells.toArray] w (DoPost p es dv w) := by
  obtain ⟨W, hW⟩ : ∃ W, W = ((w.alloc (.cells #[(Value.slice al es.length cl), .int .u64 (uv g)] 32)).alloc (.cells x.cells.toArray 40)).alloc (.cells #[.slice none 0 0, .int .u64 0] 32) := ⟨_, rfl⟩
  have D := Lib.hid (show Below w.heap.size w W by rw [hW]; exact gr_tr (gr_tr (gr_alloc w _) (gr_alloc _ _)) (gr_alloc _ _))
  have X := Lib.hid (show W.heap[w.heap.size]? = some (.cells #[(Value.slice al es.length cl), .int .u64 (uv g)] 32 (0, 0)) by rw [hW]; exact blk_below (blk_below (heap_alloc_new w _) (gr_alloc _ _)) (gr_alloc _ _))
  have Y := Lib.hid (show W.heap[w.heap.size + 1]? = some (.cells x.cells.toArray 40 (0, 0)) by rw [hW]; have h := blk_below (heap_alloc_new (w.alloc (.cells #[(Value.slice al es.length cl), .int .u64 (uv g)] 32)) (.cells x.cells.toArray 40)) (gr_alloc _ (.cells #[.slice none 0 0, .int .u64 0] 32)); rw [World.size_alloc] at h; exact h)
  have Z := Lib.hid (show W.heap[w.heap.size + 2]? = some (.cells #[.slice none 0 0, .int .u64 0] 32 (0, 0)) by rw [hW]; have h := heap_alloc_new ((w.alloc (.cells #[(Value.slice al es.length cl), .int .u64 (uv g)] 32)).alloc (.cells x.cells.toArray 40)) (.cells #[.slice none 0 0, .int .u64 0] 32); rw [World.size_alloc, World.size_alloc] at h; exact h)
  have HW := Lib.hid hW
  have y0 : W.cell? ⟨w.heap.size + 1, 0, none⟩ = some (.int .i64 x.kd) := (cell_of_row _ _ 0 _ _ _ Y.out).trans rfl
  have y12 : W.cell? ⟨w.heap.size + 1, 12, none⟩ = some (.string (strOf x.h)) := (cell_of_row _ _ 12 _ _ _ Y.out).trans rfl
  have LK := Lib.hid (fun w' (h : Below w.heap.size w w') => looks_d p es g dv dhs (Value.slice al es.length cl) hvs x.h w' (hd.below h) h2 h3 (hr.below h) hl)
  have DD := Lib.hid hd; have RR := Lib.hid hr; have H2 := Lib.hid h2; have H3 := Lib.hid h3
  obtain ⟨kd, hkd⟩ : ∃ k, x.kd = k := ⟨_, rfl⟩
  rw [hkd] at y0 hk1 hk2
  have hk1' : (kd == 1) = false := by simpa using hk1
  have hk2' : (kd == 2) = false := by simpa using hk2
  obtain ⟨st, hst⟩ : ∃ s, strOf x.h = s := ⟨_, rfl⟩
  rw [hst] at y12 LK
  obtain ⟨xc, hxc⟩ : ∃ c, x.cells.toArray = c := ⟨_, rfl⟩
  rw [hxc] at HW Y ⊢
  clear hW hd hr h2 h3 hkd hst hxc hk1 hk2
  go_enter Tryz.func7, Tryz.ntmps7
  go_upto_region 1 with fail
  rw [← HW.out]
  clear HW
  go_upto_region 15 with fail
  clear hk1' hk2' y0
  obtain ⟨q, hq⟩ : ∃ x, w.heap.size = x := ⟨_, rfl⟩
  have HQ := Lib.hid hq
  rw [hq] at X Y Z y12 ⊢
  have q0 : ∀ x, Keep (fun k => k = q + 2) W x → x.heap[q]? = some (.cells #[(Value.slice al es.length cl), .int .u64 (uv g)] 32 (0, 0)) := fun x hx => Keep.blkB hx X.out (by omega)
  have q12 : ∀ y : KeepT (fun k => k = q + 2) W, y.val.cell? ⟨q + 1, 12, none⟩ = some (.string st) := fun y => y.cell y12 (by omega)
  refine wp_region_planW (fun k => k = q + 2) [(true, 0), (true, 1), (true, 2), (true, 3), (true, 4), (false, 5), (false, 6), (true, 7)] (by kernel_rfl) (by kernel_rfl) (by intro c a d v w h; cases d <;> exact h) ?_
  intro W1 K1 C1
  refine wpS_load_rowM rfl rfl 32 (.tmp 4) rfl q rfl 32 #[(Value.slice al es.length cl), .int .u64 (uv g)] (0, 0) _ q0 Tryz.underlying32 rfl (by kernel_rfl) ?_
  (refine wpS_firm rfl (fun K hK => ?_); simp only [Keep]; go_simp; refine hK _ ?_; clear hK K)
  refine wpS_load_rowM rfl rfl 32 (.tmp 4) rfl q rfl 32 #[(Value.slice al es.length cl), .int .u64 (uv g)] (0, 0) _ q0 Tryz.underlying32 rfl (by kernel_rfl) ?_
  (refine wpS_firm rfl (fun K hK => ?_); simp only [Keep]; go_simp; refine hK _ ?_; clear hK K)
  (refine wpS_firm rfl (fun K hK => ?_); simp only [Keep]; go_simp; refine hK _ ?_; clear hK K)
  clear q12
  refine wpS_chain rfl ?_
  go_wp2_with (go_at_call 15; go_loud (refine (LK.out _ (gr_tr D.out C1.out)).mono ?_; rintro e w2 ⟨rfl, hw⟩; have C2 := Lib.hid (gr_tr C1.out hw); have K2 := Lib.hid (K1.out.below hw); have D2 := Lib.hid (gr_tr (gr_tr D.out C1.out) hw); have Z2 := Lib.hid (blk_below (blk_below Z.out C1.out) hw); clear hw))
  refine ⟨K2.out, ?_⟩
  refine wpS_chain rfl ?_
  refine wpList_store_rowC rfl 32 (.tmp 6) (.tmp 81) rfl (q + 2) #[.slice al es.length cl, .int .u64 (uv g)] rfl rfl 32 _ Z2.out (by kernel_rfl) rfl (by simp [Value.oneCell']) ?_
  intro w3 h3 hc
  have Z3 := Lib.hid h3
  have K3 := Lib.hid (K2.out.chgK hc (fun k hk => .inl hk))
  have D3 := Lib.hid (D2.out.trans (hc.below (fun k e => by have e' : k = q + 2 := e; have := HQ.out; omega) D2.out.size))
  clear h3 hc
  go_wp2
  refine ⟨K3.out, ?_⟩
  (refine wpS_firm rfl (fun K hK => ?_); simp only [Keep]; go_simp; refine hK _ ?_; clear hK K)
  unfold wpS
  go_wp2
  exact bodyPost_ret (results_row_tmp rfl _ _ (q + 2) 32 #[.slice al es.length cl, .int .u64 (uv g)] (0, 0) _ rfl Z3.out Tryz.underlying32 rfl (by kernel_rfl)) rfl ⟨es, g, dv, dhs, .slice al es.length cl, hvs, rfl, DD.out.below D3.out, H2.out, H3.out, RR.out.below D3.out, .inl rfl, Chg.of_below D3.out, id⟩
theorem chg_end {p q : Nat} {dv : Value} {w w1 w2 wf : World} (h1 : Chg (DirB p dv) w w1) (h2 : Below w1.heap.size w1 w2) (h3 : Chg (fun k => k = q) w2 wf) (hq : w.heap.size ≤ q) : Chg (DirB p dv) w wf := by
  have h4 : Chg (fun k => DirB p dv k ∨ k = q) w wf := ((h1.mono (fun k hk => .inl hk)).trans (Chg.of_below h2)).trans (h3.mono (fun k hk => .inr hk))
  exact h4.old (fun k hk hB => by
    rcases hB with h | h
    · exact h
    · omega)
theorem cell_kt {w w' : World} {k o : Nat} {v : Value} {cs : Array Value} {t : TypeId} {fr : Nat × Nat} (h : KeptT w w') (hk : w.heap[k]? = some (.cells cs t fr)) (h1 : t ≠ 70) (h2 : t ≠ 29) : w'.heap[k]? = some (.cells cs t fr) := h k cs t fr hk h1 h2
theorem rng_row {w : World} {k o : Nat} {a b c : List Value} {t : TypeId} {fr : Nat × Nat} (hk : w.heap[k]? = some (.cells (a ++ (b ++ c)).toArray t fr)) (ho : o = a.length) : w.rangeAt k o b := fun j v hj => by
  subst ho
  refine (cell_of_row _ _ _ _ _ _ hk).trans ?_
  rw [List.getElem?_toArray, List.getElem?_append_right (by omega), Nat.add_sub_cancel_left, List.getElem?_append_left (List.getElem?_eq_some_iff.1 hj).1, hj]
set_option maxRecDepth 20000 in
set_option maxHeartbeats 6400000 in
theorem do_rem (p : Nat) (es : List Ent) (g : BitVec 64) (dv : Value) (dhs : List Value) (al : Option Addr) (cl : Nat) (hvs : List Value) (x : Stp) (w : World) (hd : DirAt w p es g dv dhs) (h2 : es.length ≤ 256) (h3 : ∀ e ∈ es, e.r.ok = true) (hr : RefAt w es (Value.slice al es.length cl) hvs) (hl : x.h.length ≤ 9223372036854775807) (hk2 : x.kd = 2) :
    Calls Tryz.prog 7 #[.pointer (some ⟨p, 0, none⟩), .agg #[(Value.slice al es.length cl), .int .u64 (uv g)], .agg x.cells.toArray] w (DoPost p es dv w) := by
  obtain ⟨W, hW⟩ : ∃ W, W = ((w.alloc (.cells #[(Value.slice al es.length cl), .int .u64 (uv g)] 32)).alloc (.cells x.cells.toArray 40)).alloc (.cells #[.slice none 0 0, .int .u64 0] 32) := ⟨_, rfl⟩
  have D := Lib.hid (show Below w.heap.size w W by rw [hW]; exact gr_tr (gr_tr (gr_alloc w _) (gr_alloc _ _)) (gr_alloc _ _))
  have X := Lib.hid (show W.heap[w.heap.size]? = some (.cells #[(Value.slice al es.length cl), .int .u64 (uv g)] 32 (0, 0)) by rw [hW]; exact blk_below (blk_below (heap_alloc_new w _) (gr_alloc _ _)) (gr_alloc _ _))
  have Y := Lib.hid (show W.heap[w.heap.size + 1]? = some (.cells x.cells.toArray 40 (0, 0)) by rw [hW]; have h := blk_below (heap_alloc_new (w.alloc (.cells #[(Value.slice al es.length cl), .int .u64 (uv g)] 32)) (.cells x.cells.toArray 40)) (gr_alloc _ (.cells #[.slice none 0 0, .int .u64 0] 32)); rw [World.size_alloc] at h; exact h)
  have Z := Lib.hid (show W.heap[w.heap.size + 2]? = some (.cells #[.slice none 0 0, .int .u64 0] 32 (0, 0)) by rw [hW]; have h := heap_alloc_new ((w.alloc (.cells #[(Value.slice al es.length cl), .int .u64 (uv g)] 32)).alloc (.cells x.cells.toArray 40)) (.cells #[.slice none 0 0, .int .u64 0] 32); rw [World.size_alloc, World.size_alloc] at h; exact h)
  have WS := Lib.hid (show W.heap.size = w.heap.size + 3 by rw [hW]; simp)
  have HW := Lib.hid hW
  have y0 : W.cell? ⟨w.heap.size + 1, 0, none⟩ = some (.int .i64 2) := (cell_of_row _ _ 0 _ _ _ Y.out).trans (show some (Value.int .i64 x.kd) = _ by rw [hk2])
  have HL := Lib.hid hl
  have DD := Lib.hid hd; have RR := Lib.hid hr; have H2 := Lib.hid h2; have H3 := Lib.hid h3
  have RNG := Lib.hid (fun (w' : World) (h : w'.heap[w.heap.size + 1]? = some (.cells x.cells.toArray 40 (0, 0))) => rng_row (a := [Value.int .i64 x.kd]) (o := 1) (show w'.heap[w.heap.size + 1]? = some (.cells ([Value.int .i64 x.kd] ++ (x.r.cells ++ ([x.hv] ++ ([Value.string (strOf x.h)] ++ [])))).toArray 40 (0, 0)) from h) rfl)
  have C12 := Lib.hid (fun (w' : World) (h : w'.heap[w.heap.size + 1]? = some (.cells x.cells.toArray 40 (0, 0))) => (cell_of_row w' (w.heap.size + 1) 12 _ _ _ h).trans (show x.cells.toArray[12]? = some (.string (strOf x.h)) from rfl))
  have REM := Lib.hid (fun w' h => Remove_any p es g dv dhs x.r w' h h2)
  have RRM := Lib.hid (fun w' h => rRemove_at es g (Value.slice al es.length cl) hvs x.r w' h h2)
  have CLL := Lib.hid (rec_len x.r)
  obtain ⟨rc, hrc⟩ : ∃ c, x.r.cells = c := ⟨_, rfl⟩
  rw [hrc] at RNG CLL REM RRM
  obtain ⟨E, hE⟩ : ∃ E, remE es x.r = E := ⟨_, rfl⟩
  rw [hE] at REM
  have HE := Lib.hid hE
  obtain ⟨st, hst⟩ : ∃ s, strOf x.h = s := ⟨_, rfl⟩
  have HST := Lib.hid hst
  rw [hst] at C12
  obtain ⟨xc, hxc⟩ : ∃ c, x.cells.toArray = c := ⟨_, rfl⟩
  rw [hxc] at HW Y RNG C12 ⊢
  clear hW hd hr h2 h3 hst hxc hrc hl hk2 hE
  go_enter Tryz.func7, Tryz.ntmps7
  go_upto_region 1 with fail
  rw [← HW.out]
  clear HW
  go_upto_region 14 with (first
    | (refine wpList_load_mid rfl 37 (.tmp 60) rfl (w.heap.size + 1) 1 rfl rc _ (RNG.out _ Y.out) Tryz.underlying37 rfl (by rw [CLL.out]; kernel_rfl) ?_)
    | (go_at_call 12; go_loud (refine (REM.out _ (DD.out.below D.out)).mono ?_; rintro e w1 ⟨rfl, dv', dhs', h1, ho, hc⟩; have DD1 := Lib.hid h1; have OB := Lib.hid ho; have HC := Lib.hid hc; have hkt := KeptT.of_chg (DD.out.below D.out) hc; have X1 := Lib.hid (cell_kt (o := 0) (v := undef) hkt X.out (by decide) (by decide)); have Y1 := Lib.hid (cell_kt (o := 0) (v := undef) hkt Y.out (by decide) (by decide)); have Z1 := Lib.hid (cell_kt (o := 0) (v := undef) hkt Z.out (by decide) (by decide)); have RR1 := Lib.hid ((RR.out.below D.out).kt hkt); clear h1 ho hc hkt y0))
    | (refine wpList_load_row rfl 32 (.tmp 4) rfl w.heap.size rfl 32 #[(Value.slice al es.length cl), .int .u64 (uv g)] (0, 0) _ X1.out Tryz.underlying32 rfl (by kernel_rfl) ?_)
    | (refine wpList_load_mid rfl 37 (.tmp 65) rfl (w.heap.size + 1) 1 rfl rc _ (RNG.out _ Y1.out) Tryz.underlying37 rfl (by rw [CLL.out]; kernel_rfl) ?_)
    | (go_at_call 21; go_loud (refine (RRM.out _ RR1.out).mono ?_; rintro e w2 ⟨lv', hvs', rfl, h1, hb⟩; have RR2 := Lib.hid h1; obtain ⟨a', c', rfl⟩ := own_shape h1.own; have B2 := Lib.hid hb; have Y2 := Lib.hid (blk_below Y1.out hb); have Z2 := Lib.hid (blk_below Z1.out hb); clear h1 hb))
    | (refine wpList_store_new rfl 32 (.tmp 14) (.tmp 68) rfl #[.slice a' (remS es x.r).length c', .int .u64 (uv (remG es g x.r))] 32 _ rfl rfl (by kernel_rfl) rfl (by simp [Value.oneCell']) ?_; intro w3 h3 hb; have N3 := Lib.hid h3; have B3 := Lib.hid (gr_tr B2.out hb); have RR3 := Lib.hid (RR2.out.below hb); have Y3 := Lib.hid (blk_below Y2.out hb); have Z3 := Lib.hid (blk_below Z2.out hb); clear h3 hb))
  have EE := Lib.hid HE.out
  rw [HE.out]
  obtain ⟨q14, hq14⟩ : ∃ x, w2.heap.size = x := ⟨_, rfl⟩
  rw [hq14] at N3 ⊢
  obtain ⟨q, hq⟩ : ∃ x, w.heap.size = x := ⟨_, rfl⟩
  have HQ := Lib.hid hq
  rw [hq] at Y3 Z3 C12 ⊢
  have QN := Lib.hid (show q14 ≠ q + 2 by
    have := (Array.getElem?_eq_some_iff.1 Z2.out).1
    omega)
  have DD3 := Lib.hid (DD1.out.below B3.out)
  obtain ⟨ok1, ok2⟩ := remS_ok (r := x.r) H2.out H3.out
  have OK1 := Lib.hid ok1; have OK2 := Lib.hid ok2
  have LK := Lib.hid (fun w' (h : Below w3.heap.size w3 w') => looks_d p (remS es x.r) (remG es g x.r) dv' dhs' _ hvs' x.h w' (DD3.out.below h) OK1.out OK2.out (RR3.out.below h) HL.out)
  rw [HST.out] at LK
  clear hq hq14 ok1 ok2
  have q0 : ∀ y, Keep (fun k => k = q + 2) w3 y → y.heap[q14]? = some (.cells #[.slice a' (remS es x.r).length c', .int .u64 (uv (remG es g x.r))] 32 (0, 0)) := fun y hy => Keep.blkB hy N3.out QN.out
  have q12 : ∀ y : KeepT (fun k => k = q + 2) w3, y.val.cell? ⟨q + 1, 12, none⟩ = some (.string st) := fun y => y.cell (C12.out _ Y3.out) (by omega)
  have hee : (E == E) = true := by simp
  refine wp_region_planW (fun k => k = q + 2) [(true, 0), (true, 1), (true, 2), (true, 3), (true, 4), (true, 5), (true, 6), (true, 7), (true, 8), (false, 9), (true, 10), (false, 11), (true, 12)] (by kernel_rfl) (by kernel_rfl) (by intro c a d v w h; cases d <;> exact h) ?_
  intro W1 K1 C1
  refine wpS_load_rowM rfl rfl 32 (.tmp 14) rfl q14 rfl 32 _ (0, 0) _ q0 Tryz.underlying32 rfl (by kernel_rfl) ?_
  (refine wpS_firm rfl (fun K hK => ?_); simp only [Keep]; go_simp; refine hK _ ?_; clear hK K)
  (refine wpS_firm rfl (fun K hK => ?_); simp only [Keep]; go_simp; refine hK _ ?_; clear hK K)
  (refine wpS_firm rfl (fun K hK => ?_); simp only [Keep]; go_simp; refine hK _ ?_; clear hK K)
  (refine wpS_firm rfl (fun K hK => ?_); simp only [Keep]; go_simp; refine hK _ ?_; clear hK K)
  (refine wpS_firm rfl (fun K hK => ?_); simp only [Keep]; go_simp; refine hK _ ?_; clear hK K)
  refine wpS_load_rowM rfl rfl 32 (.tmp 14) rfl q14 rfl 32 _ (0, 0) _ q0 Tryz.underlying32 rfl (by kernel_rfl) ?_
  (refine wpS_firm rfl (fun K hK => ?_); simp only [Keep]; go_simp; refine hK _ ?_; clear hK K)
  (refine wpS_firm rfl (fun K hK => ?_); simp only [Keep]; go_simp; refine hK _ ?_; clear hK K)
  clear q12 hee
  refine wpS_chain rfl ?_
  go_wp2_with (go_at_call 15; go_loud (refine (LK.out _ C1.out).mono ?_; rintro e w4 ⟨rfl, hw⟩; have C4 := Lib.hid (gr_tr C1.out hw); have K4 := Lib.hid (K1.out.below hw); have Z4 := Lib.hid (blk_below Z3.out (gr_tr C1.out hw)); clear hw))
  refine ⟨K4.out, ?_⟩
  (refine wpS_firm rfl (fun K hK => ?_); simp only [Keep]; go_simp; refine hK _ ?_; clear hK K)
  refine wpS_chain rfl ?_
  refine wpList_store_rowC rfl 32 (.tmp 6) (.tmp 70) rfl (q + 2) #[.slice a' (remS es x.r).length c', .int .u64 (uv (remG es g x.r))] rfl rfl 32 _ Z4.out (by kernel_rfl) rfl (by simp [Value.oneCell']) ?_
  intro w5 h5 hc
  have Z5 := Lib.hid h5
  have K5 := Lib.hid (K4.out.chgK hc (fun k hk => .inl hk))
  have HC5 := Lib.hid hc
  clear h5 hc
  go_wp2
  refine ⟨K5.out, ?_⟩
  (refine wpS_firm rfl (fun K hK => ?_); simp only [Keep]; go_simp; refine hK _ ?_; clear hK K)
  unfold wpS
  go_wp2
  have hB4 : Below w1.heap.size w1 w4 := gr_tr B3.out C4.out
  refine bodyPost_ret (results_row_tmp rfl _ _ (q + 2) 32 #[.slice a' (remS es x.r).length c', .int .u64 (uv (remG es g x.r))] (0, 0) _ rfl Z5.out Tryz.underlying32 rfl (by kernel_rfl)) rfl ⟨remS es x.r, remG es g x.r, dv', dhs', .slice a' (remS es x.r).length c', hvs', rfl, (DD1.out.below hB4).set Z4.out (by decide) (by decide) (by decide) HC5.out, OK1.out, OK2.out, (RR3.out.below C4.out).set Z4.out (by decide) (by decide) HC5.out, .inl OB.out, chg_end ((Chg.of_below D.out).trans HC.out) hB4 HC5.out (by have := HQ.out; omega), fun h => h.rem _⟩
end Go.Proofs.YtjcgdenkmmgmfaaGreatDoor
namespace Go.Proofs.YtjcgdenkmmgmfaaGreatDoor
open Go.RowKit Dsc
set_option linter.unusedVariables false
set_option linter.unusedSimpArgs false
attribute [local go_sem] Oper.semAt_some
theorem own_some {w : World} {base : Nat} {e : TypeId} {size : Nat} {a : Option Addr} {n c : Nat} {xs : List Value} (h : w.ownsRow base e size (.slice a n c) n xs) (hn : 0 < n) : ∃ g, a = some ⟨g, 0, none⟩ := by
  obtain ⟨-, h⟩ := h
  rcases h with ⟨-, h⟩ | ⟨g, c', cur, h, -⟩
  · omega
  · injection h with h; exact ⟨g, h⟩
set_option maxRecDepth 20000 in
set_option maxHeartbeats 6400000 in
theorem do_add (w0 : World) (p : Nat) (es : List Ent) (g : BitVec 64) (dv : Value) (dhs : List Value) (al : Option Addr) (cl : Nat) (hvs : List Value) (x : Stp) (hs : List (List (BitVec 8))) (w : World) (hd : DirAt w p es g dv dhs) (h2 : es.length ≤ 256) (h3 : ∀ e ∈ es, e.r.ok = true) (hr : RefAt w es (Value.slice al es.length cl) hvs) (hl : x.h.length ≤ 9223372036854775807) (hk1 : x.kd = 1)
    (hfit : x.r.Fit) (hsv : SliceV w0 strC x.hv hs) (hsl : ∀ s ∈ hs, s.length ≤ 9223372036854775807) (hs8 : hs.length ≤ 8) (d4 : w0.heap.size ≤ p) (d5 : Below w0.heap.size w0 w) :
    Calls Tryz.prog 7 #[.pointer (some ⟨p, 0, none⟩), .agg #[(Value.slice al es.length cl), .int .u64 (uv g)], .agg x.cells.toArray] w (DoPost p es dv w) := by
  obtain ⟨W, hW⟩ : ∃ W, W = ((w.alloc (.cells #[(Value.slice al es.length cl), .int .u64 (uv g)] 32)).alloc (.cells x.cells.toArray 40)).alloc (.cells #[.slice none 0 0, .int .u64 0] 32) := ⟨_, rfl⟩
  have D := Lib.hid (show Below w.heap.size w W by rw [hW]; exact gr_tr (gr_tr (gr_alloc w _) (gr_alloc _ _)) (gr_alloc _ _))
  have X := Lib.hid (show W.heap[w.heap.size]? = some (.cells #[(Value.slice al es.length cl), .int .u64 (uv g)] 32 (0, 0)) by rw [hW]; exact blk_below (blk_below (heap_alloc_new w _) (gr_alloc _ _)) (gr_alloc _ _))
  have Y := Lib.hid (show W.heap[w.heap.size + 1]? = some (.cells x.cells.toArray 40 (0, 0)) by rw [hW]; have h := blk_below (heap_alloc_new (w.alloc (.cells #[(Value.slice al es.length cl), .int .u64 (uv g)] 32)) (.cells x.cells.toArray 40)) (gr_alloc _ (.cells #[.slice none 0 0, .int .u64 0] 32)); rw [World.size_alloc] at h; exact h)
  have Z := Lib.hid (show W.heap[w.heap.size + 2]? = some (.cells #[.slice none 0 0, .int .u64 0] 32 (0, 0)) by rw [hW]; have h := heap_alloc_new ((w.alloc (.cells #[(Value.slice al es.length cl), .int .u64 (uv g)] 32)).alloc (.cells x.cells.toArray 40)) (.cells #[.slice none 0 0, .int .u64 0] 32); rw [World.size_alloc, World.size_alloc] at h; exact h)
  have WS := Lib.hid (show W.heap.size = w.heap.size + 3 by rw [hW]; simp)
  have HW := Lib.hid hW
  have y0 : W.cell? ⟨w.heap.size + 1, 0, none⟩ = some (.int .i64 1) := (cell_of_row _ _ 0 _ _ _ Y.out).trans (show some (Value.int .i64 x.kd) = _ by rw [hk1])
  have HL := Lib.hid hl; have HSV := Lib.hid hsv; have HSL := Lib.hid hsl; have D5 := Lib.hid d5; have D4 := Lib.hid d4
  have DD := Lib.hid hd; have RR := Lib.hid hr; have H2 := Lib.hid h2; have H3 := Lib.hid h3
  have RNG := Lib.hid (fun (w' : World) (h : w'.heap[w.heap.size + 1]? = some (.cells x.cells.toArray 40 (0, 0))) => rng_row (a := [Value.int .i64 x.kd]) (o := 1) (show w'.heap[w.heap.size + 1]? = some (.cells ([Value.int .i64 x.kd] ++ (x.r.cells ++ ([x.hv] ++ ([Value.string (strOf x.h)] ++ [])))).toArray 40 (0, 0)) from h) rfl)
  have C12 := Lib.hid (fun (w' : World) (h : w'.heap[w.heap.size + 1]? = some (.cells x.cells.toArray 40 (0, 0))) => (cell_of_row w' (w.heap.size + 1) 12 _ _ _ h).trans (show x.cells.toArray[12]? = some (.string (strOf x.h)) from rfl))
  have C11 := Lib.hid (fun (w' : World) (h : w'.heap[w.heap.size + 1]? = some (.cells x.cells.toArray 40 (0, 0))) => (cell_of_row w' (w.heap.size + 1) 11 _ _ _ h).trans (show x.cells.toArray[11]? = some x.hv from rfl))
  have ADD := Lib.hid (fun v w' h hv => Add_any2 p es g dv dhs x.r v hs w' h h2 hfit hv hsl)
  have RAD := Lib.hid (fun w' h hv => rAdd_at es g (Value.slice al es.length cl) hvs x.r x.hv hs w' h h2 hfit hv hsl)
  have CLL := Lib.hid (rec_len x.r)
  obtain ⟨rc, hrc⟩ : ∃ c, x.r.cells = c := ⟨_, rfl⟩
  rw [hrc] at RNG CLL ADD RAD
  obtain ⟨E, hE⟩ : ∃ E, addE es x.r hs = E := ⟨_, rfl⟩
  rw [hE] at ADD
  have HE := Lib.hid hE
  obtain ⟨st, hst⟩ : ∃ s, strOf x.h = s := ⟨_, rfl⟩
  have HST := Lib.hid hst
  rw [hst] at C12
  obtain ⟨ah, ch, hhv, -⟩ := id hsv
  obtain ⟨m, hm⟩ : ∃ m, hs.length = m := ⟨_, rfl⟩
  have HM := Lib.hid hm
  rw [hm] at hhv hs8
  have y11 : W.cell? ⟨w.heap.size + 1, 11, none⟩ = some (.slice ah m ch) := (C11.out _ Y.out).trans (by rw [hhv])
  have SV1 := Lib.hid (show SliceV W strC (.slice ah m ch) hs by rw [← hhv]; exact SliceV.below (SliceV.below hsv d5) D.out)
  rw [hhv] at C11 RAD
  have HHV := Lib.hid hhv
  obtain ⟨xc, hxc⟩ : ∃ c, x.cells.toArray = c := ⟨_, rfl⟩
  rw [hxc] at HW Y RNG C12 C11 ⊢
  obtain ⟨a', c', he, t0, t1, -, t3⟩ := id SV1.out
  injection he with he1 he2 he3
  subst he1; subst he3
  have T0 := Lib.hid t0; have T1 := Lib.hid t1; have T3 := Lib.hid t3
  clear hW hd hr h2 h3 hst hxc hrc hl hk1 hE hsv hsl hm hhv d4 d5 he2 t0 t1 t3 hfit
  go_enter Tryz.func7, Tryz.ntmps7
  go_upto_region 1 with fail
  rw [← HW.out]
  clear HW
  go_upto_region 4 with (at_builtin; go_loud (refine app_law_at strsOk rfl _ _ rfl W.heap.size (.slice none 0 0) 0 [] rfl (World.ownsRow_nil _ _ _ _) ah m ch (hs.flatMap strC) rfl T0.out (by rw [← HM.out]; exact T1.out) T3.out (by rw [flat_len (f := strC) (k := 1) (fun _ => rfl), HM.out]) (by intro u hu; obtain ⟨s, -, hu⟩ := List.mem_flatMap.1 hu; rw [List.mem_singleton.1 hu]; rfl) (by omega) (by omega) (Nat.le_refl _) ?_; intro v8 w1 ho hg ha; have hb : Below W.heap.size W w1 := (Below.refl _ _).grown hg (Nat.le_refl _) (by intro k hk; cases hk); rw [Nat.zero_add, List.nil_append] at ho; obtain ⟨a8, c8, rfl⟩ := own_shape ho; have O1 := Lib.hid ho; have B1 := Lib.hid hb; have X1 := Lib.hid (blk_below X.out hb); have Y1 := Lib.hid (blk_below Y.out hb); have Z1 := Lib.hid (blk_below Z.out hb); clear ho hg ha hb))
  clear y0 y11
  have S1 := Lib.hid (SliceV.of_own (f := strC) (k := 1) (by decide) (fun _ => rfl) (xs := hs) (by rw [HM.out]; exact O1.out))
  go_upto_region 6 with (first
    | (refine wpList_load_mid rfl 37 (.tmp 25) rfl (w.heap.size + 1) 1 rfl rc _ (RNG.out _ Y1.out) Tryz.underlying37 rfl (by rw [CLL.out]; kernel_rfl) ?_)
    | (refine wpList_load_mid rfl 37 (.tmp 24) rfl (w.heap.size + 1) 1 rfl rc _ (RNG.out _ Y1.out) Tryz.underlying37 rfl (by rw [CLL.out]; kernel_rfl) ?_)
    | (go_at_call 11; go_loud (refine (ADD.out _ _ (DD.out.below (gr_tr D.out B1.out)) S1.out).mono ?_; rintro e w2 ⟨rfl, dv', dhs', h1, ho, hf, hc⟩; have DD2 := Lib.hid h1; have OB := Lib.hid ho; have HC := Lib.hid hc; have FR2 := Lib.hid hf; have hkt := KeptT.of_chg (DD.out.below (gr_tr D.out B1.out)) hc; have X2 := Lib.hid (cell_kt (o := 0) (v := undef) hkt X1.out (by decide) (by decide)); have Y2 := Lib.hid (cell_kt (o := 0) (v := undef) hkt Y1.out (by decide) (by decide)); have Z2 := Lib.hid (cell_kt (o := 0) (v := undef) hkt Z1.out (by decide) (by decide)); have RR2 := Lib.hid ((RR.out.below (gr_tr D.out B1.out)).kt hkt); have O2 := Lib.hid (own_kt O1.out hkt (by decide) (by decide)); have y11 := C11.out _ Y2.out; have BL2 := Lib.hid (DirS.chg (DD.out.below (gr_tr D.out B1.out)) D4.out (gr_tr D5.out (gr_tr D.out B1.out)) hc); clear h1 ho hf hc hkt))
    | (refine wpList_load_row rfl 32 (.tmp 4) rfl w.heap.size rfl 32 #[(Value.slice al es.length cl), .int .u64 (uv g)] (0, 0) _ X2.out Tryz.underlying32 rfl (by kernel_rfl) ?_)
    | (refine wpList_load_mid rfl 37 (.tmp 30) rfl (w.heap.size + 1) 1 rfl rc _ (RNG.out _ Y2.out) Tryz.underlying37 rfl (by rw [CLL.out]; kernel_rfl) ?_)
    | (go_at_call 20; go_loud (refine (RAD.out _ RR2.out (by rw [← HHV.out]; exact SliceV.below HSV.out BL2.out)).mono ?_; rintro e w3 ⟨lv', hvs', rfl, h1, hf, hb⟩; have RR3 := Lib.hid h1; obtain ⟨a', c', rfl⟩ := own_shape h1.own; have FR3 := Lib.hid hf; have B3 := Lib.hid hb; have Y3 := Lib.hid (blk_below Y2.out hb); have Z3 := Lib.hid (blk_below Z2.out hb); have O3 := Lib.hid (own_below O2.out hb); clear h1 hf hb y11))
    | (refine wpList_store_new rfl 32 (.tmp 10) (.tmp 35) rfl #[.slice a' (addS es x.r hs).length c', .int .u64 (uv (addG es g x.r hs))] 32 _ rfl rfl (by kernel_rfl) rfl (by simp [Value.oneCell']) ?_; intro w4 h4 hb; have N4 := Lib.hid h4; have B4 := Lib.hid (gr_tr B3.out hb); have RR4 := Lib.hid (RR3.out.below hb); have Y4 := Lib.hid (blk_below Y3.out hb); have Z4 := Lib.hid (blk_below Z3.out hb); have O4 := Lib.hid (own_below O3.out hb); clear h4 hb))
  rw [HE.out]
  obtain ⟨q10, hq10⟩ : ∃ x, w3.heap.size = x := ⟨_, rfl⟩
  rw [hq10] at N4 ⊢
  obtain ⟨q, hq⟩ : ∃ x, w.heap.size = x := ⟨_, rfl⟩
  have HQ := Lib.hid hq
  rw [hq] at Y4 Z4 Z3 C12 WS ⊢
  have QN := Lib.hid (show q10 ≠ q + 2 by
    have := (Array.getElem?_eq_some_iff.1 Z3.out).1
    omega)
  have Q10L := Lib.hid (show w1.heap.size ≤ q10 by
    have h1 := HC.out.size
    have h2 := B3.out.size
    omega)
  clear hq hq10
  -- the blocks of the own copy
  have OL := Lib.hid (show ∀ k, (Value.slice a8 m c8).ownBlock = some k → q + 3 ≤ k ∧ k < w1.heap.size from fun k hk => by
    have := O1.out.lt k hk
    have := WS.out
    omega)
  have DD4 := Lib.hid (DD2.out.below B4.out)
  have D8 := Lib.hid (show ∀ wr, Chg (fun k => (Value.slice a8 m c8).ownBlock = some k) w4 wr → DirAt wr p (addS es x.r hs) (addG es g x.r hs) dv' dhs' from fun wr hc => DD4.out.chg (mv := dv') (q := q) hc
    (fun e => own_apartB O4.out DD4.out.blk (by decide) e)
    (fun k hk e => own_apartT DD4.out.own O4.out (by decide) k hk e)
    (fun i e hv a b k hk e2 => by
      rcases FR2.out i hv b with h | h
      · obtain ⟨e0, he0⟩ : ∃ e0, es[i]? = some e0 := ⟨_, List.getElem?_eq_getElem (by have h9 := (List.getElem?_eq_some_iff.1 h).1; rw [DD.out.len] at h9; exact h9)⟩
        have h8 := ((DD.out.el i e0 hv he0 h).2.1.lt k hk).2
        have := (OL.out k e2).1
        have := HQ.out
        omega
      · have := h k hk
        have := (OL.out k e2).2
        omega))
  have R8 := Lib.hid (show ∀ wr, Chg (fun k => (Value.slice a8 m c8).ownBlock = some k) w4 wr → RefAt wr (addS es x.r hs) (.slice a' (addS es x.r hs).length c') hvs' from fun wr hc => by
    refine ⟨own_chg RR4.out.own hc (fun k hk e => own_apartT RR4.out.own O4.out (by decide) k hk e), RR4.out.len, fun i e hv a b => ?_⟩
    obtain ⟨x1, y1, z1⟩ := RR4.out.el i e hv a b
    refine ⟨x1, own_chg y1 hc (fun k hk e2 => ?_), z1⟩
    rcases FR3.out i hv b with h | h
    · obtain ⟨e0, he0⟩ : ∃ e0, es[i]? = some e0 := ⟨_, List.getElem?_eq_getElem (by have h9 := (List.getElem?_eq_some_iff.1 h).1; rw [RR.out.len] at h9; exact h9)⟩
      have h8 := ((RR.out.el i e0 hv he0 h).2.1.lt k hk).2
      have := (OL.out k e2).1
      have := HQ.out
      omega
    · have := h k hk
      have := (OL.out k e2).2
      have := HC.out.size
      omega)
  obtain ⟨ok1, ok2⟩ := addS_ok (r := x.r) (hs := hs) H2.out H3.out
  have OK1 := Lib.hid ok1; have OK2 := Lib.hid ok2
  clear ok1 ok2
  go_wp2
  go_loopw [12] (fun i wr => ∃ k : Nat, k ≤ m ∧ i = .int .i64 k ∧ (∃ xs', wr.ownsRow W.heap.size 9 1 (.slice a8 m c8) m xs') ∧ Chg (fun k => (Value.slice a8 m c8).ownBlock = some k) w4 wr) (fun i _ => m - (intOf i).toNat)
  case atStart => exact ⟨0, by omega, rfl, ⟨_, O4.out⟩, Chg.refl _ _⟩
  case round =>
    obtain ⟨k, hk, rfl, ⟨xs', ho⟩, hc⟩ := hrel
    have O := Lib.hid ho; have HC8 := Lib.hid hc
    clear ho hc
    by_cases hlt : k < m
    · obtain ⟨g8, rfl⟩ := own_some O.out (by omega)
      have hxl : xs'.length = m * 1 := O.out.1
      obtain ⟨y, hy⟩ : ∃ y, xs'[k]? = some y := ⟨_, List.getElem?_eq_getElem (by omega)⟩
      have c8k : wr.cell? ⟨g8, k, none⟩ = some y := by rw [O.out.cellAt k (by omega), hy]
      have z8k := O.out.frozenAt k
      have ST := Lib.hid (O.out.stored k (.string ⟨#[99, 104, 97, 110, 103, 101, 100]⟩))
      clear hy hxl
      go_wp2
      go_roundw
      case rel => exact ⟨k + 1, by omega, by go_num, ⟨_, ST.out.1⟩, HC8.out.trans (Chg.of_grown ST.out.2 (fun k hk => by cases hk; rfl))⟩
      case measure => simp [intOf]; omega
    · go_upto_region 10 with fail
      have X4 := Lib.hid (HC8.out.blk N4.out (fun e => by have := (OL.out _ e).2; have := Q10L.out; omega))
      have Y5 := Lib.hid (HC8.out.blk Y4.out (fun e => by have := (OL.out _ e).1; omega))
      have Z5 := Lib.hid (HC8.out.blk Z4.out (fun e => by have := (OL.out _ e).1; omega))
      have DD5 := Lib.hid (D8.out _ HC8.out)
      have RR5 := Lib.hid (R8.out _ HC8.out)
      have LK := Lib.hid (fun w' (h : Below wr.heap.size wr w') => looks_d p (addS es x.r hs) (addG es g x.r hs) dv' dhs' _ hvs' x.h w' (DD5.out.below h) OK1.out OK2.out (RR5.out.below h) HL.out)
      rw [HST.out] at LK
      have q0 : ∀ y, Keep (fun k => k = q + 2) wr y → y.heap[q10]? = some (.cells #[.slice a' (addS es x.r hs).length c', .int .u64 (uv (addG es g x.r hs))] 32 (0, 0)) := fun y hy => Keep.blkB hy X4.out QN.out
      have q12 : ∀ y : KeepT (fun k => k = q + 2) wr, y.val.cell? ⟨q + 1, 12, none⟩ = some (.string st) := fun y => y.cell (C12.out _ Y5.out) (by omega)
      have hee : (E == E) = true := by simp
      refine wp_region_planW (fun k => k = q + 2) [(true, 0), (true, 1), (true, 2), (true, 3), (true, 4), (true, 5), (true, 6), (true, 7), (true, 8), (false, 9), (true, 10), (false, 11), (true, 12)] (by kernel_rfl) (by kernel_rfl) (by intro c a d v w h; cases d <;> exact h) ?_
      intro W1 K1 C1
      refine wpS_load_rowM rfl rfl 32 (.tmp 10) rfl q10 rfl 32 _ (0, 0) _ q0 Tryz.underlying32 rfl (by kernel_rfl) ?_
      (refine wpS_firm rfl (fun K hK => ?_); simp only [Keep]; go_simp; refine hK _ ?_; clear hK K)
      (refine wpS_firm rfl (fun K hK => ?_); simp only [Keep]; go_simp; refine hK _ ?_; clear hK K)
      (refine wpS_firm rfl (fun K hK => ?_); simp only [Keep]; go_simp; refine hK _ ?_; clear hK K)
      (refine wpS_firm rfl (fun K hK => ?_); simp only [Keep]; go_simp; refine hK _ ?_; clear hK K)
      (refine wpS_firm rfl (fun K hK => ?_); simp only [Keep]; go_simp; refine hK _ ?_; clear hK K)
      refine wpS_load_rowM rfl rfl 32 (.tmp 10) rfl q10 rfl 32 _ (0, 0) _ q0 Tryz.underlying32 rfl (by kernel_rfl) ?_
      (refine wpS_firm rfl (fun K hK => ?_); simp only [Keep]; go_simp; refine hK _ ?_; clear hK K)
      (refine wpS_firm rfl (fun K hK => ?_); simp only [Keep]; go_simp; refine hK _ ?_; clear hK K)
      clear q12 hee
      refine wpS_chain rfl ?_
      go_wp2_with (go_at_call 15; go_loud (refine (LK.out _ C1.out).mono ?_; rintro e w5 ⟨rfl, hw⟩; have C5 := Lib.hid (gr_tr C1.out hw); have K5 := Lib.hid (K1.out.below hw); have Z6 := Lib.hid (blk_below Z5.out (gr_tr C1.out hw)); clear hw))
      refine ⟨K5.out, ?_⟩
      (refine wpS_firm rfl (fun K hK => ?_); simp only [Keep]; go_simp; refine hK _ ?_; clear hK K)
      refine wpS_chain rfl ?_
      refine wpList_store_rowC rfl 32 (.tmp 6) (.tmp 46) rfl (q + 2) #[.slice a' (addS es x.r hs).length c', .int .u64 (uv (addG es g x.r hs))] rfl rfl 32 _ Z6.out (by kernel_rfl) rfl (by simp [Value.oneCell']) ?_
      intro w6 h6 hc
      have Z7 := Lib.hid h6
      have K6 := Lib.hid (K5.out.chgK hc (fun k hk => .inl hk))
      have HC6 := Lib.hid hc
      clear h6 hc
      go_wp2
      refine ⟨K6.out, ?_⟩
      (refine wpS_firm rfl (fun K hK => ?_); simp only [Keep]; go_simp; refine hK _ ?_; clear hK K)
      unfold wpS
      go_wp2
      have hCH : Chg (fun k => DirB p dv k ∨ q + 2 ≤ k) w w6 :=
        ((((Chg.of_below (gr_tr D.out B1.out)).trans (HC.out.mono (fun k hk => .inl hk))).trans (Chg.of_below B4.out)).trans (HC8.out.mono (fun k hk => .inr (by have := (OL.out k hk).1; omega)))).trans ((Chg.of_below C5.out).trans (HC6.out.mono (fun k hk => .inr (by have e' : k = q + 2 := hk; omega))))
      have hCF : Chg (DirB p dv) w w6 := hCH.old (fun k hk hB => by
        rcases hB with h | h
        · exact h
        · have := HQ.out; omega)
      have hOB : dv'.ownBlock = dv.ownBlock ∨ ∃ b, dv'.ownBlock = some b ∧ w.heap.size ≤ b := by
        rcases OB.out with h | ⟨b, h, h'⟩
        · exact .inl h
        · exact .inr ⟨b, h, by have := (gr_tr D.out B1.out).size; omega⟩
      exact bodyPost_ret (results_row_tmp rfl _ _ (q + 2) 32 #[.slice a' (addS es x.r hs).length c', .int .u64 (uv (addG es g x.r hs))] (0, 0) _ rfl Z7.out Tryz.underlying32 rfl (by kernel_rfl)) rfl ⟨addS es x.r hs, addG es g x.r hs, dv', dhs', .slice a' (addS es x.r hs).length c', hvs', rfl, (DD5.out.below C5.out).set Z6.out (by decide) (by decide) (by decide) HC6.out, OK1.out, OK2.out, (RR5.out.below C5.out).set Z6.out (by decide) (by decide) HC6.out, hOB, hCF, fun h => h.add _ _⟩
end Go.Proofs.YtjcgdenkmmgmfaaGreatDoor
namespace Go.Proofs.YtjcgdenkmmgmfaaGreatDoor
open Go.RowKit Dsc
set_option linter.unusedVariables false
set_option linter.unusedSimpArgs false
attribute [local go_sem] Oper.semAt_some
theorem long_is (r : Rec) : ∃ z : Bool, ∀ w, Calls Tryz.prog 16 #[.agg r.cells.toArray] w fun e w' => e = .returned (.bool z) ∧ Below w.heap.size w w' := by
  obtain ⟨s1, h1⟩ : ∃ s, strOf r.sv = s := ⟨_, rfl⟩
  obtain ⟨s2, h2⟩ : ∃ s, strOf r.sb = s := ⟨_, rfl⟩
  obtain ⟨s3, h3⟩ : ∃ s, strOf r.ad = s := ⟨_, rfl⟩
  refine ⟨decide ((400 : Int) < (s1.size : Int)) || (decide ((400 : Int) < (s2.size : Int)) || decide ((400 : Int) < (s3.size : Int))), fun w => ?_⟩
  obtain ⟨W, hW⟩ : ∃ W, W = w.alloc (.cells r.cells.toArray 37) := ⟨_, rfl⟩
  have D := Lib.hid (show Below w.heap.size w W by rw [hW]; exact gr_alloc w _)
  have X := Lib.hid (show W.heap[w.heap.size]? = some (.cells r.cells.toArray 37 (0, 0)) by rw [hW]; exact heap_alloc_new w _)
  have HW := Lib.hid hW
  clear hW
  have q7 : W.cell? ⟨w.heap.size, 7, none⟩ = some (.string s1) := by rw [← h1]; exact (cell_of_row _ _ 7 _ _ _ X.out).trans rfl
  have q8 : W.cell? ⟨w.heap.size, 8, none⟩ = some (.string s2) := by rw [← h2]; exact (cell_of_row _ _ 8 _ _ _ X.out).trans rfl
  have q9 : W.cell? ⟨w.heap.size, 9, none⟩ = some (.string s3) := by rw [← h3]; exact (cell_of_row _ _ 9 _ _ _ X.out).trans rfl
  obtain ⟨cr, hcr⟩ : ∃ c, r.cells.toArray = c := ⟨_, rfl⟩
  rw [hcr] at HW ⊢
  clear h1 h2 h3 hcr X
  obtain ⟨n1, e1⟩ : ∃ n, s1.size = n := ⟨_, rfl⟩
  obtain ⟨n2, e2⟩ : ∃ n, s2.size = n := ⟨_, rfl⟩
  obtain ⟨n3, e3⟩ : ∃ n, s3.size = n := ⟨_, rfl⟩
  rw [e1, e2, e3]
  by_cases g1 : (400 : Int) < (n1 : Int)
  · rw [decide_eq_true g1, Bool.true_or]
    go_enter Tryz.func16, Tryz.ntmps16
    go_upto_region 1 with fail
    rw [← HW.out]
    go_wp2
    go_ret
    exact ⟨rfl, D.out⟩
  · rw [decide_eq_false g1, Bool.false_or]
    by_cases g2 : (400 : Int) < (n2 : Int)
    · rw [decide_eq_true g2, Bool.true_or]
      go_enter Tryz.func16, Tryz.ntmps16
      go_upto_region 1 with fail
      rw [← HW.out]
      go_wp2
      go_ret
      exact ⟨rfl, D.out⟩
    · rw [decide_eq_false g2, Bool.false_or]
      by_cases g3 : (400 : Int) < (n3 : Int)
      · rw [decide_eq_true g3]
        go_enter Tryz.func16, Tryz.ntmps16
        go_upto_region 1 with fail
        rw [← HW.out]
        go_wp2
        go_ret
        exact ⟨rfl, D.out⟩
      · rw [decide_eq_false g3]
        go_enter Tryz.func16, Tryz.ntmps16
        go_upto_region 1 with fail
        rw [← HW.out]
        go_wp2
        go_ret
        exact ⟨rfl, D.out⟩
/-- A call that returns some bool. -/
def SomeB (w : World) (e : Ending) (w' : World) : Prop := ∃ z : Bool, e = .returned (.bool z) ∧ Below w.heap.size w w'
set_option maxHeartbeats 6400000 in
set_option maxRecDepth 20000 in
theorem few_any (v : Value) (xs : List Stp) (w : World) (hv : SliceV w Stp.cells v xs) (hR : ∀ x ∈ xs, Stp.R w x) :
    Calls Tryz.prog 5 #[v] w (SomeB w) := by
  have SV := Lib.hid hv; have HR := Lib.hid hR
  obtain ⟨a, c, rfl, -, hm1, hm2, -⟩ := id hv
  obtain ⟨n, hn⟩ : ∃ n, xs.length = n := ⟨_, rfl⟩
  have hmax : n ≤ 9223372036854775807 := by omega
  have HN := Lib.hid hn
  rw [hn]
  clear hn hm1 hm2 hv hR
  go_enter Tryz.func5, Tryz.ntmps5
  go_wp2
  go_loopw [3] (fun i wr => ∃ k : Nat, k ≤ n ∧ i = .int .i64 k ∧ Below w.heap.size w wr) (fun i _ => n - (intOf i).toNat)
  case atStart => exact ⟨0, by omega, rfl, Below.refl _ _⟩
  case round =>
    obtain ⟨k, hk, rfl, hb⟩ := hrel
    have C := Lib.hid hb
    clear hb
    by_cases hlt : k < n
    · by_cases h41 : (k : Int) < 41
      · obtain ⟨x, hx⟩ : ∃ x, xs[k]? = some x := ⟨_, List.getElem?_eq_getElem (by rw [HN.out]; exact hlt)⟩
        obtain ⟨g, o, cq, he, x0, x1, x2, x3⟩ := stp_at SV.out k x hx
        injection he with he1 he2 he3
        subst he1; subst he3
        obtain ⟨-, -, ⟨hs, hsv, hsl⟩, -⟩ := HR.out x (List.mem_of_getElem? hx)
        obtain ⟨ah, ch, hhv, -, hh1, hh2, -⟩ := id hsv
        rw [hhv] at x2 hsv
        have HS := Lib.hid hsv
        have R1 := Lib.hid (rng_below x1 C.out)
        have c2 := below_cellE C.out x2
        have c3 := below_cellE C.out x3
        obtain ⟨zl, hzl⟩ := long_is x.r
        have LNG := Lib.hid hzl
        have CLL := Lib.hid (rec_len x.r)
        obtain ⟨cl, hcl⟩ : ∃ cl, x.r.cells = cl := ⟨_, rfl⟩
        rw [hcl] at R1 CLL LNG
        obtain ⟨st, hst⟩ : ∃ s, strOf x.h = s := ⟨_, rfl⟩
        rw [hst] at c3
        obtain ⟨m, hm⟩ : ∃ m, hs.length = m := ⟨_, rfl⟩
        have HM := Lib.hid hm
        have hm63 : m ≤ 9223372036854775807 := by omega
        rw [hm] at c2 x2
        have HX2 := Lib.hid x2
        clear hx x0 x1 x2 x3 hsl hsv hzl hcl hst hm hhv hh1 hh2 he2
        cases zl
        · by_cases g1 : (8 : Int) < (m : Int)
          · go_wp2_with (first
              | (refine wpList_load_mid rfl 37 (.tmp 18) rfl g (o + k * 13 + 1) rfl cl _ R1.out Tryz.underlying37 rfl (by rw [CLL.out]; kernel_rfl) ?_)
              | (go_at_call 16; go_loud (refine (LNG.out _).mono ?_; rintro e w4 ⟨rfl, hw⟩; have C1 := Lib.hid (gr_tr C.out hw); have e2 := below_cellE hw c2; have e3 := below_cellE hw c3; clear hw c2 c3)))
            (go_ret; exact ⟨_, rfl, C1.out⟩)
          · by_cases g2 : (300 : Int) < (st.size : Int)
            · go_wp2_with (first
                | (refine wpList_load_mid rfl 37 (.tmp 18) rfl g (o + k * 13 + 1) rfl cl _ R1.out Tryz.underlying37 rfl (by rw [CLL.out]; kernel_rfl) ?_)
                | (go_at_call 16; go_loud (refine (LNG.out _).mono ?_; rintro e w4 ⟨rfl, hw⟩; have C1 := Lib.hid (gr_tr C.out hw); have e2 := below_cellE hw c2; have e3 := below_cellE hw c3; clear hw c2 c3)))
              (go_ret; exact ⟨_, rfl, C1.out⟩)
            · go_wp2_with (first
                | (refine wpList_load_mid rfl 37 (.tmp 18) rfl g (o + k * 13 + 1) rfl cl _ R1.out Tryz.underlying37 rfl (by rw [CLL.out]; kernel_rfl) ?_)
                | (go_at_call 16; go_loud (refine (LNG.out _).mono ?_; rintro e w4 ⟨rfl, hw⟩; have C1 := Lib.hid (gr_tr C.out hw); have e2 := below_cellE hw c2; have e3 := below_cellE hw c3; clear hw c2 c3)))
              clear e2 e3 R1
              go_loopw [4] (fun i wr => ∃ j : Nat, j ≤ m ∧ i = .int .i64 j ∧ Below w.heap.size w wr) (fun i _ => m - (intOf i).toNat)
              case atStart => exact ⟨0, by omega, rfl, C1.out⟩
              case round =>
                obtain ⟨j, hj, rfl, hb⟩ := hrel
                have C2 := Lib.hid hb
                have c2 := below_cellE hb HX2.out
                clear hb
                by_cases hlj : j < m
                · obtain ⟨s, hs1⟩ : ∃ s, hs[j]? = some s := ⟨_, List.getElem?_eq_getElem (by rw [HM.out]; exact hlj)⟩
                  obtain ⟨g2, o2, c2', he, hc⟩ := str_rng HS.out j s hs1
                  injection he with he he' he''
                  subst he; subst he''
                  have hc2 := below_cellE C2.out hc
                  obtain ⟨sj, hsj⟩ : ∃ st, strOf s = st := ⟨_, rfl⟩
                  rw [hsj] at hc2
                  clear hs1 hc he' hsj
                  by_cases g3 : (300 : Int) < (sj.size : Int)
                  · go_wp2
                    go_ret
                    exact ⟨_, rfl, C2.out⟩
                  · go_wp2
                    go_roundw
                    case rel => exact ⟨j + 1, by omega, by go_num, C2.out⟩
                    case measure => simp [intOf]; omega
                · obtain rfl : j = m := by omega
                  go_wp2
                  go_roundw
                  case rel => exact ⟨k + 1, by omega, by go_num, C2.out⟩
                  case measure => simp [intOf]; omega
        · go_wp2_with (first
            | (refine wpList_load_mid rfl 37 (.tmp 18) rfl g (o + k * 13 + 1) rfl cl _ R1.out Tryz.underlying37 rfl (by rw [CLL.out]; kernel_rfl) ?_)
            | (go_at_call 16; go_loud (refine (LNG.out _).mono ?_; rintro e w4 ⟨rfl, hw⟩; have C1 := Lib.hid (gr_tr C.out hw); clear hw)))
          (go_ret; exact ⟨_, rfl, C1.out⟩)
      · go_wp2
        go_ret
        exact ⟨_, rfl, C.out⟩
    · obtain rfl : k = n := by omega
      go_wp2
      go_ret
      exact ⟨_, rfl, C.out⟩
end Go.Proofs.YtjcgdenkmmgmfaaGreatDoor
namespace Go.Proofs.YtjcgdenkmmgmfaaGreatDoor
open Go.RowKit Dsc
set_option linter.unusedVariables false
set_option linter.unusedSimpArgs false
attribute [local go_sem] Oper.semAt_some
/-- What few returns: hosts are at most 8. -/
def FewB (xs : List Stp) (w : World) (e : Ending) (w' : World) : Prop := ∃ z : Bool, e = .returned (.bool z) ∧ (z = true → ∀ y ∈ xs, ∀ a n c, y.hv = .slice a n c → n ≤ 8) ∧ Below w.heap.size w w'
set_option maxHeartbeats 6400000 in
set_option maxRecDepth 20000 in
theorem few_le (v : Value) (xs : List Stp) (w : World) (hv : SliceV w Stp.cells v xs) (hR : ∀ x ∈ xs, Stp.R w x) :
    Calls Tryz.prog 5 #[v] w (FewB xs w) := by
  have SV := Lib.hid hv; have HR := Lib.hid hR
  obtain ⟨a, c, rfl, -, hm1, hm2, -⟩ := id hv
  obtain ⟨n, hn⟩ : ∃ n, xs.length = n := ⟨_, rfl⟩
  have hmax : n ≤ 9223372036854775807 := by omega
  have HN := Lib.hid hn
  rw [hn]
  clear hn hm1 hm2 hv hR
  go_enter Tryz.func5, Tryz.ntmps5
  go_wp2
  go_loopw [3] (fun i wr => ∃ k : Nat, k ≤ n ∧ i = .int .i64 k ∧ Below w.heap.size w wr ∧ Hid (∀ i y, i < k → xs[i]? = some y → ∀ a n c, y.hv = .slice a n c → n ≤ 8)) (fun i _ => n - (intOf i).toNat)
  case atStart => exact ⟨0, by omega, rfl, Below.refl _ _, Lib.hid (fun i y h => by omega)⟩
  case round =>
    obtain ⟨k, hk, rfl, hb, HF⟩ := hrel
    have C := Lib.hid hb
    clear hb
    by_cases hlt : k < n
    · by_cases h41 : (k : Int) < 41
      · obtain ⟨x, hx⟩ : ∃ x, xs[k]? = some x := ⟨_, List.getElem?_eq_getElem (by rw [HN.out]; exact hlt)⟩
        obtain ⟨g, o, cq, he, x0, x1, x2, x3⟩ := stp_at SV.out k x hx
        injection he with he1 he2 he3
        subst he1; subst he3
        obtain ⟨-, -, ⟨hs, hsv, hsl⟩, -⟩ := HR.out x (List.mem_of_getElem? hx)
        obtain ⟨ah, ch, hhv, -, hh1, hh2, -⟩ := id hsv
        rw [hhv] at x2 hsv
        have HHV := Lib.hid hhv; have HX := Lib.hid hx
        have HS := Lib.hid hsv
        have R1 := Lib.hid (rng_below x1 C.out)
        have c2 := below_cellE C.out x2
        have c3 := below_cellE C.out x3
        obtain ⟨zl, hzl⟩ := long_is x.r
        have LNG := Lib.hid hzl
        have CLL := Lib.hid (rec_len x.r)
        obtain ⟨cl, hcl⟩ : ∃ cl, x.r.cells = cl := ⟨_, rfl⟩
        rw [hcl] at R1 CLL LNG
        obtain ⟨st, hst⟩ : ∃ s, strOf x.h = s := ⟨_, rfl⟩
        rw [hst] at c3
        obtain ⟨m, hm⟩ : ∃ m, hs.length = m := ⟨_, rfl⟩
        have HM := Lib.hid hm
        have hm63 : m ≤ 9223372036854775807 := by omega
        rw [hm] at c2 x2
        have HX2 := Lib.hid x2
        clear hx x0 x1 x2 x3 hsl hsv hzl hcl hst hm hhv hh1 hh2 he2
        cases zl
        · by_cases g1 : (8 : Int) < (m : Int)
          · go_wp2_with (first
              | (refine wpList_load_mid rfl 37 (.tmp 18) rfl g (o + k * 13 + 1) rfl cl _ R1.out Tryz.underlying37 rfl (by rw [CLL.out]; kernel_rfl) ?_)
              | (go_at_call 16; go_loud (refine (LNG.out _).mono ?_; rintro e w4 ⟨rfl, hw⟩; have C1 := Lib.hid (gr_tr C.out hw); have e2 := below_cellE hw c2; have e3 := below_cellE hw c3; clear hw c2 c3)))
            (go_ret; exact ⟨false, rfl, (fun h => (by cases h)), C1.out⟩)
          · by_cases g2 : (300 : Int) < (st.size : Int)
            · go_wp2_with (first
                | (refine wpList_load_mid rfl 37 (.tmp 18) rfl g (o + k * 13 + 1) rfl cl _ R1.out Tryz.underlying37 rfl (by rw [CLL.out]; kernel_rfl) ?_)
                | (go_at_call 16; go_loud (refine (LNG.out _).mono ?_; rintro e w4 ⟨rfl, hw⟩; have C1 := Lib.hid (gr_tr C.out hw); have e2 := below_cellE hw c2; have e3 := below_cellE hw c3; clear hw c2 c3)))
              (go_ret; exact ⟨false, rfl, (fun h => (by cases h)), C1.out⟩)
            · go_wp2_with (first
                | (refine wpList_load_mid rfl 37 (.tmp 18) rfl g (o + k * 13 + 1) rfl cl _ R1.out Tryz.underlying37 rfl (by rw [CLL.out]; kernel_rfl) ?_)
                | (go_at_call 16; go_loud (refine (LNG.out _).mono ?_; rintro e w4 ⟨rfl, hw⟩; have C1 := Lib.hid (gr_tr C.out hw); have e2 := below_cellE hw c2; have e3 := below_cellE hw c3; clear hw c2 c3)))
              clear e2 e3 R1
              go_loopw [4] (fun i wr => ∃ j : Nat, j ≤ m ∧ i = .int .i64 j ∧ Below w.heap.size w wr) (fun i _ => m - (intOf i).toNat)
              case atStart => exact ⟨0, by omega, rfl, C1.out⟩
              case round =>
                obtain ⟨j, hj, rfl, hb⟩ := hrel
                have C2 := Lib.hid hb
                have c2 := below_cellE hb HX2.out
                clear hb
                by_cases hlj : j < m
                · obtain ⟨s, hs1⟩ : ∃ s, hs[j]? = some s := ⟨_, List.getElem?_eq_getElem (by rw [HM.out]; exact hlj)⟩
                  obtain ⟨g2, o2, c2', he, hc⟩ := str_rng HS.out j s hs1
                  injection he with he he' he''
                  subst he; subst he''
                  have hc2 := below_cellE C2.out hc
                  obtain ⟨sj, hsj⟩ : ∃ st, strOf s = st := ⟨_, rfl⟩
                  rw [hsj] at hc2
                  clear hs1 hc he' hsj
                  by_cases g3 : (300 : Int) < (sj.size : Int)
                  · go_wp2
                    go_ret
                    exact ⟨false, rfl, (fun h => (by cases h)), C2.out⟩
                  · go_wp2
                    go_roundw
                    case rel => exact ⟨j + 1, by omega, by go_num, C2.out⟩
                    case measure => simp [intOf]; omega
                · obtain rfl : j = m := by omega
                  have HF2 := Lib.hid (show ∀ i y, i < k + 1 → xs[i]? = some y → ∀ a n c, y.hv = .slice a n c → n ≤ 8 from fun i y hi hy a n c he => by
                    by_cases hik : i = k
                    · subst hik
                      rw [HX.out] at hy
                      cases hy
                      rw [HHV.out] at he
                      injection he with _ he _
                      have := HM.out
                      omega
                    · exact HF.out i y (by omega) hy a n c he)
                  go_wp2
                  go_roundw
                  case rel => exact ⟨k + 1, by omega, by go_num, C2.out, HF2⟩
                  case measure => simp [intOf]; omega
        · go_wp2_with (first
            | (refine wpList_load_mid rfl 37 (.tmp 18) rfl g (o + k * 13 + 1) rfl cl _ R1.out Tryz.underlying37 rfl (by rw [CLL.out]; kernel_rfl) ?_)
            | (go_at_call 16; go_loud (refine (LNG.out _).mono ?_; rintro e w4 ⟨rfl, hw⟩; have C1 := Lib.hid (gr_tr C.out hw); clear hw)))
          (go_ret; exact ⟨false, rfl, (fun h => (by cases h)), C1.out⟩)
      · go_wp2
        go_ret
        exact ⟨_, rfl, (fun h => (by have := of_decide_eq_true h; omega)), C.out⟩
    · obtain rfl : k = n := by omega
      have HA := Lib.hid (show ∀ y ∈ xs, ∀ a n c, y.hv = .slice a n c → n ≤ 8 from fun y hy a n c he => by
        obtain ⟨i, hi⟩ := List.mem_iff_getElem?.1 hy
        exact HF.out i y (by rw [← HN.out]; exact (List.getElem?_eq_some_iff.1 hi).1) hi a n c he)
      go_wp2
      go_ret
      exact ⟨_, rfl, fun _ => HA.out, C.out⟩
end Go.Proofs.YtjcgdenkmmgmfaaGreatDoor
namespace Go.Proofs.YtjcgdenkmmgmfaaGreatDoor
open Go.RowKit Dsc
set_option linter.unusedVariables false
set_option linter.unusedSimpArgs false
attribute [local go_sem] Oper.semAt_some
theorem do_any (w0 : World) (p : Nat) (es : List Ent) (g : BitVec 64) (dv : Value) (dhs : List Value) (lv : Value) (hvs : List Value) (x : Stp) (w : World) (hd : DirAt w p es g dv dhs) (h2 : es.length ≤ 256) (h3 : ∀ e ∈ es, e.r.ok = true) (hr : RefAt w es lv hvs)
    (hR : Stp.R w0 x) (h8 : ∀ a n c, x.hv = .slice a n c → n ≤ 8) (d4 : w0.heap.size ≤ p) (d5 : Below w0.heap.size w0 w) :
    Calls Tryz.prog 7 #[.pointer (some ⟨p, 0, none⟩), .agg #[lv, .int .u64 (uv g)], .agg x.cells.toArray] w (DoPost p es dv w) := by
  obtain ⟨al, cl, rfl⟩ : ∃ a c, lv = .slice a es.length c := own_shape hr.own
  obtain ⟨-, hRr, ⟨hs, hsv, hsl⟩, hl⟩ := hR
  by_cases hk1 : x.kd = 1
  · refine do_add w0 p es g dv dhs al cl hvs x hs w hd h2 h3 hr hl hk1 (Rec.R.fit hRr) hsv hsl ?_ d4 d5
    obtain ⟨a, c, he, -⟩ := hsv
    exact h8 a hs.length c he
  · by_cases hk2 : x.kd = 2
    · exact do_rem p es g dv dhs al cl hvs x w hd h2 h3 hr hl hk2
    · exact do_none p es g dv dhs al cl hvs x w hd h2 h3 hr hl hk1 hk2
theorem RefAt.none (w : World) : RefAt w [] (.slice none 0 0) [] := ⟨World.ownsRow_nil _ _ _ _, rfl, fun i e hv h => by simp at h⟩
set_option maxHeartbeats 6400000 in
set_option maxRecDepth 20000 in
theorem lawPlays (v : Value) (xs : List Stp) (w : World) (hv : SliceV w Stp.cells v xs) (hR : ∀ x ∈ xs, Stp.R w x) :
    Calls Tryz.prog 3 #[v] w fun e w' => e = .returned (.bool true) ∧ Below w.heap.size w w' := by
  have FEW := Lib.hid (few_le v xs w hv hR)
  have SV := Lib.hid hv; have HR := Lib.hid hR
  obtain ⟨a, c, rfl, -, hm1, hm2, -⟩ := id hv
  obtain ⟨n, hn⟩ : ∃ n, xs.length = n := ⟨_, rfl⟩
  have hmax : n ≤ 9223372036854775807 := by omega
  have HN := Lib.hid hn
  rw [hn] at FEW SV ⊢
  clear hn hm1 hm2 hv hR
  go_enter Tryz.func3, Tryz.ntmps3
  go_upto_region 3 with (first
    | (go_at_call 5; go_loud (refine FEW.out.mono ?_; rintro e w1 ⟨z, rfl, h8, hw⟩; have D1 := Lib.hid hw; have H8 := Lib.hid h8; clear hw h8; cases z))
    | (go_at_call 6; go_loud (refine (known_any _).mono ?_; rintro e w9 ⟨rfl, hw⟩; have D9 := Lib.hid hw; clear hw)))
  · go_ret
    exact ⟨rfl, gr_tr D1.out D9.out⟩
  have H8 := Lib.hid (H8.out (by trivial))
  obtain ⟨W, hW⟩ : ∃ x, x = w1.alloc (.cells #[.slice none 0 0, .int .u64 0] 29) := ⟨_, rfl⟩
  have DS0 := Lib.hid (DirS.new (w0 := w) D1.out hW)
  obtain ⟨p, hp⟩ : ∃ x, w1.heap.size = x := ⟨_, rfl⟩
  rw [hp] at DS0
  have HW := Lib.hid hW; have HP := Lib.hid hp
  clear hW hp
  go_upto_region 4 with fail
  rw [← HW.out, HP.out]
  clear HW
  go_upto_region 5 with (refine wpList_store_new rfl 32 (.tmp 4) (.tmp 13) rfl #[.slice none 0 0, .int .u64 0] 32 _ rfl rfl (by kernel_rfl) rfl (by kernel_rfl) ?_; intro w3 h3 hb; have Q3 := Lib.hid h3; have DS3 := Lib.hid (DS0.out.below hb); clear h3 hb)
  have QL := Lib.hid (show w.heap.size ≤ W.heap.size from DS0.out.base.size)
  obtain ⟨q, hq⟩ : ∃ x, W.heap.size = x := ⟨_, rfl⟩
  rw [hq] at Q3 QL ⊢
  have PL := Lib.hid (show w.heap.size ≤ p by rw [← HP.out]; exact D1.out.size)
  clear hq DS0 FEW
  go_wp2
  go_loopw [5] (fun i wr => ∃ (k : Nat) (es : List Ent) (g : BitVec 64) (dv : Value) (dhs : List Value) (lv : Value) (hvs : List Value), k ≤ n ∧ i = .int .i64 k ∧ DirAt wr p es g dv dhs ∧ es.length ≤ 256 ∧ (∀ e ∈ es, e.r.ok = true) ∧ RefAt wr es lv hvs ∧ Hid (wr.heap[q]? = some (.cells #[lv, .int .u64 (uv g)] 32 (0, 0))) ∧ Below w.heap.size w wr) (fun i _ => n - (intOf i).toNat)
  case atStart =>
    obtain ⟨lv, hvs, h1, h2, h3, h4, h5⟩ := DS3.out
    exact ⟨0, [], 0#64, lv, hvs, .slice none 0 0, [], by omega, rfl, h1, by simp, by simp, RefAt.none _, Q3, h5⟩
  case round =>
    obtain ⟨k, es, g, dv, dhs, lv, hvs, hk, rfl, hd, h2, h3, hr, QR, hb⟩ := hrel
    have DD := Lib.hid hd; have H2 := Lib.hid h2; have H3 := Lib.hid h3; have RR := Lib.hid hr; have BB := Lib.hid hb
    clear hd h2 h3 hr hb
    by_cases hlt : k < n
    · obtain ⟨x, hx⟩ : ∃ x, xs[k]? = some x := ⟨_, List.getElem?_eq_getElem (by rw [HN.out]; exact hlt)⟩
      obtain ⟨gq, o, cq, he1, hr1⟩ := SliceV.rng Stp.cells_len SV.out k x hx (by decide)
      injection he1 with he1 he1' he1''
      subst he1; subst he1''
      have GL := Lib.hid (show gq < w.heap.size from World.block_lt_of_cell? w ⟨gq, o + k * 13 + 0, none⟩ (hr1 0 _ rfl))
      have R1 := Lib.hid (rng_below hr1 BB.out)
      have DOX := Lib.hid (fun w' h1 h2 h3 h4 h5 => do_any w p es g dv dhs lv hvs x w' h1 h2 h3 h4 (HR.out x (List.mem_of_getElem? hx)) (H8.out x (List.mem_of_getElem? hx)) PL.out h5)
      have CLL := Lib.hid (Stp.cells_len x)
      obtain ⟨xc, hxc⟩ : ∃ c, x.cells = c := ⟨_, rfl⟩
      rw [hxc] at R1 CLL DOX
      clear hx hr1 hxc he1'
      have NB := Lib.hid (show ¬ (DirB p dv gq ∨ gq = q) from fun hB => by
        have := GL.out
        have := PL.out
        have := QL.out
        rcases hB with (e | e) | e
        · omega
        · have := (DD.out.own.lt gq e).1; omega
        · omega)
      go_upto_region 9 with fail
      refine wp_region_planW (fun k => DirB p dv k ∨ k = q) [(true, 0), (true, 2), (true, 3), (true, 4), (true, 5), (false, 1), (false, 6), (true, 7), (true, 8), (true, 9), (false, 10), (true, 11)] (by kernel_rfl) (by kernel_rfl) (by intro c a d v w h; cases d <;> exact h) ?_
      intro W1 K1 C1
      (refine wpS_firm rfl (fun K hK => ?_); simp only [Keep]; go_simp; refine hK _ ?_; clear hK K)
      (refine wpS_firm rfl (fun K hK => ?_); simp only [Keep]; go_simp; refine hK _ ?_; clear hK K)
      (refine wpS_firm rfl (fun K hK => ?_); simp only [Keep]; go_simp; refine hK _ ?_; clear hK K)
      (refine wpS_firm rfl (fun K hK => ?_); simp only [Keep]; go_simp; refine hK _ ?_; clear hK K)
      refine wpS_load_mid rfl rfl 40 (.tmp 25) rfl gq (o + k * 13) rfl xc _ (fun x hx => Keep.rng hx R1.out NB.out) Tryz.underlying40 rfl (by rw [CLL.out]; kernel_rfl) ?_
      have Q1 := Lib.hid (blk_below QR.out C1.out)
      refine wpS_chain rfl ?_
      refine wpList_load_row rfl 32 (.tmp 4) rfl q rfl 32 #[lv, .int .u64 (uv g)] (0, 0) _ Q1.out Tryz.underlying32 rfl (by kernel_rfl) ?_
      go_wp2
      refine ⟨K1.out, ?_⟩
      refine wpS_chain rfl ?_
      go_wp2_with (go_at_call 7; go_loud (refine (DOX.out _ (DD.out.below C1.out) H2.out H3.out (RR.out.below C1.out) (gr_tr BB.out C1.out)).mono ?_; rintro e w4 ⟨es', g', dv', dhs', lv', hvs', rfl, a1, a2, a3, a4, a5, a6, a7⟩; obtain ⟨al', cl', rfl⟩ := own_shape a4.own; have DD4 := Lib.hid a1; have E2 := Lib.hid a2; have E3 := Lib.hid a3; have RR4 := Lib.hid a4; have HC := Lib.hid a6; have K4 := Lib.hid (K1.out.chgK a6 (fun k hk => .inl (.inl hk))); have Q4 := Lib.hid ((KeptT.of_chg (DD.out.below C1.out) a6) q _ _ _ Q1.out (by decide) (by decide)); have B4 := Lib.hid (DirS.chg (DD.out.below C1.out) PL.out (gr_tr BB.out C1.out) a6); clear a1 a2 a3 a4 a5 a6 a7))
      refine ⟨K4.out, ?_⟩
      (refine wpS_firm rfl (fun K hK => ?_); simp only [Keep]; go_simp; refine hK _ ?_; clear hK K)
      (refine wpS_firm rfl (fun K hK => ?_); simp only [Keep]; go_simp; refine hK _ ?_; clear hK K)
      (refine wpS_firm rfl (fun K hK => ?_); simp only [Keep]; go_simp; refine hK _ ?_; clear hK K)
      refine wpS_chain rfl ?_
      refine wpList_store_rowC rfl 32 (.tmp 4) (.tmp 28) rfl q #[.slice al' es'.length cl', .int .u64 (uv g')] rfl rfl 32 _ Q4.out (by kernel_rfl) rfl (by simp [Value.oneCell']) ?_
      intro w5 h5 hc
      have Q5 := Lib.hid h5
      have K5 := Lib.hid (K4.out.chgK hc (fun k hk => .inl (.inr hk)))
      have DD5 := Lib.hid (DD4.out.set Q4.out (by decide) (by decide) (by decide) hc)
      have RR5 := Lib.hid (RR4.out.set Q4.out (by decide) (by decide) hc)
      have B5 := Lib.hid (B4.out.trans (hc.below (fun k e => by have e' : k = q := e; have := QL.out; omega) B4.out.size))
      clear h5 hc
      go_wp2
      refine ⟨K5.out, ?_⟩
      (refine wpS_firm rfl (fun K hK => ?_); simp only [Keep]; go_simp; refine hK _ ?_; clear hK K)
      unfold wpS
      go_wp2
      go_roundw
      case rel => exact ⟨k + 1, es', g', dv', dhs', _, hvs', by omega, by go_num, DD5.out, E2.out, E3.out, RR5.out, Q5, B5.out⟩
      case measure => simp [intOf]; omega
    · go_wp2_with (go_at_call 6; go_loud (refine (known_any _).mono ?_; rintro e w9 ⟨rfl, hw⟩; have D9 := Lib.hid hw; clear hw))
      go_ret
      exact ⟨rfl, gr_tr BB.out D9.out⟩
end Go.Proofs.YtjcgdenkmmgmfaaGreatDoor
namespace Go.Proofs.YtjcgdenkmmgmfaaGreatDoor
open Go.RowKit Go.Shelf
set_option linter.unusedVariables false
set_option linter.unusedSimpArgs false
section
variable {n : Nat} {P : Program} {ops : Array Oper} {Q : Exit → Act → World → Prop} {md : Region.Mode} {S : World → Prop}
theorem rowsIn_wide {row : String} {args : Array Value} {w : World} {R : Value → World → Prop} (h : Rows P row args w R) : RowsIn Fence.wide n P row args w R :=
  fun c cs _ => let ⟨v, w', r, s⟩ := h c cs; ⟨v, w', r, stepsIn_wide.2 s⟩
theorem opIn_wide {o : Oper} {a : Act} {w : World} {K : Act → World → Prop} (h : o.wp P a w K Q) : o.wpIn Fence.wide n P a w K Q := by
  unfold Oper.wp at h
  unfold Oper.wpIn
  refine ⟨fun _ _ => trivial, ?_⟩
  have e : o.semAt Fence.wide.round a.eval = execOp a.eval o := Oper.semAt_none _ _
  rw [e]
  revert h
  generalize (execOp a.eval o).run P w = r
  intro h
  cases r with
  | ok x w' =>
    cases x <;> simp only [Oper.upon, Oper.uponIn] at h ⊢ <;>
      first
        | exact h
        | exact ⟨fun hh => by simp [Fence.wide] at hh, callsIn_wide.2 h⟩
        | exact ⟨fun hh => by simp [Fence.wide] at hh, rowsIn_wide h⟩
  | halt x w' => cases x <;> simp only [Oper.upon, Oper.uponIn] at h ⊢ <;> exact h
theorem anyIn_wide (hL : ¬ LetsOut Q) : ∀ (fuel : Nat) (listed : Array Bool) (a : Act) (w : World), wpAny P md ops Q fuel listed a w → wpAnyIn Fence.wide n P md ops Q fuel listed a w
  | 0, _, _, _, h => h
  | fuel + 1, listed, a, w, h => ⟨h.1, fun i hi => by
    have h3 := wpOp_mono (fun a w h => anyIn_wide hL fuel _ a w h) (h.2 i hi)
    unfold wpOp at h3
    unfold wpOpIn
    cases ho : ops[i]? with
    | none => simpa [ho] using h3
    | some o =>
      simp only [ho] at h3 ⊢
      by_cases hw : Region.wanted o (yielded ops a.tmps) = true
      · rw [if_pos hw] at h3 ⊢
        rcases h3 with h3 | ⟨_, h3⟩
        · exact opIn_wide h3
        · exact absurd h3 hL
      · rw [if_neg hw] at h3 ⊢
        exact ⟨fun _ _ => trivial, h3⟩⟩
/-- A drawn region in a round: any walk of it outside rounds serves. -/
theorem wpIn_region_anyH {id : Nat} {a : Act} {w : World} {l : List Oper} (r : Nat) (hL : ¬ LetsOut Q) (hm : P.follows .mixedOrders = true) (hD : noDefer l = true)
    (h : wpAnyH P .any l.toArray Q S l.toArray.size (Array.replicate l.toArray.size false) a { w with drawn := w.drawn + 1 }) : (Code.region id l.toArray true).wpIn (Fence.wide.inRound r) n P Q a w :=
  wpIn_region_any hm (anyIn_round r (fun i o ho => noDefer_at hD ho) _ _ _ _ (anyIn_wide hL _ _ _ _ (wpAny_of_held _ _ _ _ h)))
/-- By a plan. -/
theorem wpIn_region_plan {id : Nat} {a : Act} {w : World} {l : List Oper} (r : Nat) (S : World → Prop) (plan : List (Bool × Nat)) (hL : ¬ LetsOut Q) (hm : P.follows .mixedOrders = true)
    (hB : (Region.noSelect l.toArray && planB l.toArray plan (Array.replicate l.toArray.size false) && (plan.length == l.toArray.size) && noDefer l) = true)
    (hQ : ∀ c (a : Act) (d : Option Tmp) v w, Q (.panic c) (a.put d v) w → Q (.panic c) a w) (hS : S { w with drawn := w.drawn + 1 })
    (h : wpS P l.toArray Q S plan a { w with drawn := w.drawn + 1 }) : (Code.region id l.toArray true).wpIn (Fence.wide.inRound r) n P Q a w := by
  simp only [Bool.and_eq_true, beq_iff_eq] at hB
  obtain ⟨⟨⟨hs, hp⟩, hl⟩, hD⟩ := hB
  refine wpIn_region_anyH (S := S) r hL hm hD ?_
  have h2 := wpAnyH_plan hs hQ plan _ _ _ hp hS h
  rw [hl] at h2
  exact h2
/-- A planned region of a round whose last operation may end the class. -/
theorem wpIn_region_planL {id : Nat} {a : Act} {w : World} {l : List Oper} (r : Nat) (B : Nat → Prop) (plan : List (Bool × Nat)) (z : Nat) (hL : ¬ LetsOut Q) (hm : P.follows .mixedOrders = true)
    (hB : (Region.noSelect l.toArray && planB l.toArray plan ((Array.replicate l.toArray.size false).setIfInBounds z true) && (plan.length + 1 == l.toArray.size) && lastB l.toArray z && noDefer l) = true)
    (hQ : ∀ c (a : Act) (d : Option Tmp) v w, Q (.panic c) (a.put d v) w → Q (.panic c) a w)
    (h : ∀ W, Hid (Keep B w W) → Hid (Below w.heap.size w W) → wpS P l.toArray (Exit.then (fun a w => wpOp P l.toArray Q z (Q .normal) a w) Q) (Keep B w) plan a W) : (Code.region id l.toArray true).wpIn (Fence.wide.inRound r) n P Q a w := by
  simp only [Bool.and_eq_true, beq_iff_eq] at hB
  obtain ⟨⟨⟨⟨b1, b2⟩, b3⟩, b4⟩, b5⟩ := hB
  have hz : z < l.toArray.size := by have := (lastB_all b4).1; omega
  have H := wpAnyH_plan (Q := Exit.then (fun a w => wpOp P l.toArray Q z (Q .normal) a w) Q) b1 (fun c a d v w h => hQ c a d v w h) plan ((Array.replicate l.toArray.size false).setIfInBounds z true) a w.drew b2 (Keep.start B w) (h _ (Lib.hid (Keep.start _ _)) (Lib.hid (gr_drew _)))
  have key := wpAny_last b4 plan.length (Array.replicate l.toArray.size false) a w.drew Array.size_replicate (fun k o ho hk => by rw [Array.getD_eq_getD_getElem?, Array.getElem?_replicate] at hk; split at hk <;> cases hk) (by rw [Array.getD_eq_getD_getElem?, Array.getElem?_replicate, if_pos hz]; rfl) (wpAny_of_held _ _ _ _ H)
  rw [b3] at key
  exact wpIn_region_any hm (anyIn_round r (fun i o ho => noDefer_at b5 ho) _ _ _ _ (anyIn_wide hL _ _ _ _ key))
end
end Go.Proofs.YtjcgdenkmmgmfaaGreatDoor
namespace Go.Proofs.YtjcgdenkmmgmfaaGreatDoor
open Go.RowKit Go.Shelf Dsc
set_option linter.unusedVariables false
set_option linter.unusedSimpArgs false
attribute [local go_sem] Oper.semAt_some
/-- Behind an append to the copy. -/
theorem DirAt.addedC {w : World} {p : Nat} {es : List Ent} {g : BitVec 64} {lv : Value} {hvs : List Value} (h : DirAt w p es g lv hvs) {x : Ent} {hv : Value} {w3 w' : World} {lv' : Value}
    (hH : w.ownsRow 0 9 1 hv x.hs.length (x.hs.flatMap strC)) (hfit : x.r.Fit) (hsl : ∀ s ∈ x.hs, s.length ≤ 9223372036854775807) (hn : x.hs.length ≤ 256)
    (hown : w3.ownsRow (p + 1) 70 11 lv' (es.length + 1) (((es.map (·.r)).zip hvs).flatMap entC ++ entC (x.r, hv))) (hg : w.grownBy w3 lv.ownBlock)
    (hw' : w' = w3.setCell ⟨p, 0, none⟩ lv') : DirAt w' p (es ++ [x]) g lv' (hvs ++ [hv]) ∧ Chg (DirB p lv) w w' := by
  have hpne : ∀ k, lv.ownBlock = some k → k ≠ p := fun k hk e => by have := (h.own.lt k hk).1; omega
  have hb3 : w3.heap[p]? = some (.cells #[lv, .int .u64 (uv g)] 29 (0, 0)) := (hg.block p (Array.getElem?_eq_some_iff.1 h.blk).1 (fun e => hpne p e.symm rfl)).trans h.blk
  have hcc : Chg (fun b => b = p) w3 w' := by
    rw [hw']; exact Chg.setCell (B := fun b => b = p) (p := ⟨p, 0, none⟩) _ rfl _
  have hc : Chg (DirB p lv) w w' := (Chg.of_grown hg (fun k hk => .inr hk)).trans (hcc.mono (fun k hk => .inl hk))
  have hz : ((es.map (·.r)).zip hvs).length = es.length := by rw [List.length_zip, List.length_map, h.len]; omega
  have keepH : ∀ (bs : Nat) (hv2 : Value) (m : Nat) (xs : List Value), w.ownsRow bs 9 1 hv2 m xs → w'.ownsRow bs 9 1 hv2 m xs := fun bs hv2 m xs ho =>
    own_chg ho hc (fun k hk hB => by
      rcases hB with e | e
      · subst e; exact own_apartB ho h.blk (by decide) hk
      · exact own_apartT ho h.own (by decide) k hk e)
  refine ⟨⟨?_, ?_, by simp [h.len], ?_⟩, hc⟩
  · rw [hw']
    exact heap_setCell_same _ _ _ _ _ _ hb3
  · have e : (((es ++ [x]).map (·.r)).zip (hvs ++ [hv])).flatMap entC = ((es.map (·.r)).zip hvs).flatMap entC ++ entC (x.r, hv) := by
      rw [List.map_append, List.zip_append (by rw [List.length_map, h.len]), List.flatMap_append]; simp
    rw [e, List.length_append]
    refine own_chg hown hcc (fun k hk e2 => ?_)
    have e3 : k = p := e2
    have := (hown.lt k hk).1; omega
  · intro i e hv2 h1 h2
    by_cases hi : i < es.length
    · rw [List.getElem?_append_left hi] at h1
      rw [List.getElem?_append_left (by rw [h.len]; exact hi)] at h2
      obtain ⟨y1, y2, y3⟩ := h.el i e hv2 h1 h2
      exact ⟨y1, keepH _ _ _ _ y2, y3⟩
    · rw [List.getElem?_append_right (by omega)] at h1
      rw [List.getElem?_append_right (by rw [h.len]; omega), h.len] at h2
      obtain ⟨j, hj⟩ : ∃ j, i - es.length = j := ⟨_, rfl⟩
      rw [hj] at h1 h2
      cases j with
      | zero =>
        simp at h1 h2
        subst h1; subst h2
        exact ⟨hfit, keepH _ _ _ _ hH, own_one hH, hsl, hn⟩
      | succ j => simp at h1
/-- The state of Copy's loop. -/
structure CpSt (w0 : World) (q p : Nat) (es : List Ent) (g : BitVec 64) (lv : Value) (hvs : List Value) (base : Nat) (W : World) : Prop where
  t0 : W.heap[q]? = some (.cells #[.pointer (some ⟨p, 0, none⟩)] 25 (0, 0))
  t3 : W.heap[q + 2]? = some (.cells #[.pointer (some ⟨q + 1, 0, none⟩)] 25 (0, 0))
  dir : DirAt W (q + 1) es g lv hvs
  new : ∀ k, lv.ownBlock = some k → base ≤ k
  bel : Below w0.heap.size w0 W
theorem CpSt.chg {w0 : World} {q p : Nat} {es : List Ent} {g : BitVec 64} {lv : Value} {hvs : List Value} {base : Nat} {W W2 : World} {B : Nat → Prop} (h : CpSt w0 q p es g lv hvs base W) (hc : Chg B W W2) (hB : ∀ k, B k → w0.heap.size ≤ k ∧ k ≠ q ∧ k ≠ q + 1 ∧ k ≠ q + 2 ∧ ∀ o, W.heap[k]? = some o → o.isCells = false) : CpSt w0 q p es g lv hvs base W2 := by
  have hx : ∀ {b1 : Nat} {e1 : TypeId} {s1 n1 : Nat} {v1 : Value} {x1 : List Value}, W.ownsRow b1 e1 s1 v1 n1 x1 → ∀ k, v1.ownBlock = some k → ¬ B k := fun ho k hk hb => by
    obtain ⟨o2, e1, e2⟩ := own_cells ho hk
    have := (hB k hb).2.2.2.2 o2 e1
    rw [e2] at this; cases this
  exact ⟨hc.blk h.t0 (fun e => (hB _ e).2.1 rfl), hc.blk h.t3 (fun e => (hB _ e).2.2.2.1 rfl), h.dir.chg (q := 0) (mv := undef) hc (fun e => (hB _ e).2.2.1 rfl) (hx h.dir.own) (fun i e hv h1 h2 => hx (h.dir.el i e hv h1 h2).2.1), h.new, h.bel.trans (hc.below (fun k hk => (hB k hk).1) h.bel.size)⟩
theorem CpSt.below {w0 : World} {q p : Nat} {es : List Ent} {g : BitVec 64} {lv : Value} {hvs : List Value} {base : Nat} {W W2 : World} (h : CpSt w0 q p es g lv hvs base W) (hb : Below W.heap.size W W2) : CpSt w0 q p es g lv hvs base W2 :=
  h.chg (Chg.of_below (B := fun _ => False) hb) (fun k hk => hk.elim)
theorem CpSt.grown {w0 : World} {q p : Nat} {es : List Ent} {g : BitVec 64} {lv : Value} {hvs : List Value} {base : Nat} {W W2 : World} {row : Option Nat} {B : Nat} (h : CpSt w0 q p es g lv hvs base W) (hq : w0.heap.size ≤ q) (hg : W.grownBy W2 row) (hB : q + 2 < B) (hr : ∀ r, row = some r → B ≤ r ∧ ∃ o : Obj, W.heap[r]? = some o ∧ o.isCells = false) : CpSt w0 q p es g lv hvs base W2 :=
  h.chg (Chg.of_grown (B := fun k => row = some k) hg (fun k hk => hk)) (fun k hk => by
    obtain ⟨h1, o, h2, h3⟩ := hr k hk
    refine ⟨by omega, by omega, by omega, by omega, fun o2 e => ?_⟩
    rw [h2] at e; cases e; exact h3)
theorem CpSt.next {w0 : World} {q p : Nat} {es : List Ent} {g : BitVec 64} {lv lv' : Value} {hvs : List Value} {base : Nat} {W W2 : World} {x : Ent} {hv : Value} (h : CpSt w0 q p es g lv hvs base W) (hq : w0.heap.size ≤ q) (hd : DirAt W2 (q + 1) (es ++ [x]) g lv' (hvs ++ [hv])) (hc : Chg (DirB (q + 1) lv) W W2) (hn : lv'.ownBlock = lv.ownBlock ∨ ∃ b, lv'.ownBlock = some b ∧ base ≤ b) : CpSt w0 q p (es ++ [x]) g lv' (hvs ++ [hv]) base W2 := by
  have hne : ∀ (k : Nat) (cs : Array Value) (t : TypeId) (fr : Nat × Nat), W.heap[k]? = some (.cells cs t fr) → t ≠ 70 → k ≠ q + 1 → ¬ DirB (q + 1) lv k := fun k cs t fr hk ht h1 hB => by
    rcases hB with e | e
    · exact h1 e
    · exact own_apartB h.dir.own hk (Ne.symm ht) e
  refine ⟨hc.blk h.t0 (hne _ _ _ _ h.t0 (by decide) (by omega)), hc.blk h.t3 (hne _ _ _ _ h.t3 (by decide) (by omega)), hd, ?_, h.bel.trans (hc.below (fun k hk => ?_) h.bel.size)⟩
  · intro k hk
    rcases hn with e | ⟨b, e, e2⟩
    · exact h.new k (e ▸ hk)
    · rw [e] at hk; cases hk; exact e2
  · rcases hk with e | e
    · omega
    · have := (h.dir.own.lt k e).1; omega
/-- The entries that a list of places names. -/
def cpE (es : List Ent) (xs : List Nat) : List Ent := xs.filterMap (fun i => es[i]?)
theorem cpE_more {es : List Ent} {xs : List Nat} {k : Nat} {e : Ent} (h : es[k]? = some e) : cpE es (xs ++ [k]) = cpE es xs ++ [e] := by
  unfold cpE; rw [List.filterMap_append]; simp [h]
theorem cpE_le (es : List Ent) (xs : List Nat) : (cpE es xs).length ≤ xs.length := List.length_filterMap_le _ _
theorem cpE_take (es : List Ent) : ∀ k, k ≤ es.length → cpE es (List.range k) = es.take k
  | 0, _ => by simp [cpE]
  | k + 1, h => by
    have he : es[k]? = some es[k] := List.getElem?_eq_getElem (by omega)
    rw [List.range_succ, cpE_more he, cpE_take es k (by omega), take_more es k _ he]
theorem cpE_all (es : List Ent) : cpE es (List.range es.length) = es := by rw [cpE_take es _ (Nat.le_refl _), List.take_length]
set_option maxHeartbeats 6400000 in
set_option maxRecDepth 20000 in
theorem Copy_at (p : Nat) (es : List Ent) (g : BitVec 64) (dv : Value) (dhs : List Value) (w : World) (hd : DirAt w p es g dv dhs) (hlen : es.length ≤ 256) (hu : UQ es) :
    Calls Tryz.prog 14 #[.pointer (some ⟨p, 0, none⟩)] w fun e w' => ∃ c lv hvs, e = .returned (.pointer (some ⟨c, 0, none⟩)) ∧ DirAt w' c es g lv hvs ∧ w.heap.size ≤ c ∧ Below w.heap.size w w' := by
  obtain ⟨W0, hW0⟩ : ∃ x, x = w.alloc (.cells #[.pointer (some ⟨p, 0, none⟩)] 25) := ⟨_, rfl⟩
  have D0 := Lib.hid (show Below w.heap.size w W0 by rw [hW0]; exact gr_alloc _ _)
  have T0 := Lib.hid (show W0.heap[w.heap.size]? = some (.cells #[.pointer (some ⟨p, 0, none⟩)] 25 (0, 0)) by rw [hW0]; exact heap_alloc_new w _)
  have WS := Lib.hid (show W0.heap.size = w.heap.size + 1 by rw [hW0]; simp)
  have HW := Lib.hid hW0; have DD := Lib.hid hd; have HLEN := Lib.hid hlen; have HU := Lib.hid hu
  have c0 : W0.cell? ⟨w.heap.size, 0, none⟩ = some (.pointer (some ⟨p, 0, none⟩)) := (cell_of_row _ _ 0 _ _ _ T0.out).trans rfl
  have p1 : W0.cell? ⟨p, 1, none⟩ = some (.int .u64 (uv g)) := (cell_of_row _ _ 1 _ _ _ (hd.below D0.out).blk).trans rfl
  obtain ⟨q, hq⟩ : ∃ x, w.heap.size = x := ⟨_, rfl⟩
  have HQ := Lib.hid hq
  clear hW0 hd hlen hu hq
  refine callsIn_wide.1 (callsIn_of_wp_marks (F := Fence.wide) (n := 8) Tryz.func14 rfl trivial ?_)
  simp only [Tryz.ntmps14, List.size_toArray, List.length_cons, List.length_nil, Nat.reduceAdd, Nat.reduceSub, Array.replicate_succ, Array.replicate_zero, List.push_toArray, List.append_toArray, List.nil_append, List.cons_append]
  refine wpIn_wide.2 ?_
  let FT : Exit → Act → World → Prop := bodyPost Tryz.prog Tryz.f14 (fun _ _ => True)
  go_upto_region 1 with fail
  rw [← HW.out]
  obtain ⟨W, hW⟩ : ∃ x, x = (W0.alloc (.cells #[.slice none 0 0, .int .u64 (uv g)] 29)).alloc (.cells #[.pointer (some ⟨W0.heap.size, 0, none⟩)] 25) := ⟨_, rfl⟩
  have HW2 := Lib.hid hW
  have hx1 : W.heap[q + 1]? = some (.cells #[.slice none 0 0, .int .u64 (uv g)] 29 (0, 0)) := by
    rw [hW, ← HQ.out, ← WS.out]; exact blk_below (heap_alloc_new W0 _) (gr_alloc _ _)
  have hx2 : W.heap[q + 2]? = some (.cells #[.pointer (some ⟨q + 1, 0, none⟩)] 25 (0, 0)) := by
    have h := heap_alloc_new (W0.alloc (.cells #[.slice none 0 0, .int .u64 (uv g)] 29)) (.cells #[.pointer (some ⟨W0.heap.size, 0, none⟩)] 25)
    rw [← hW, World.size_alloc, WS.out, HQ.out] at h
    exact h
  have hx0 : W.heap[q]? = some (.cells #[.pointer (some ⟨p, 0, none⟩)] 25 (0, 0)) := by
    rw [hW, ← HQ.out]; exact blk_below (blk_below T0.out (gr_alloc _ _)) (gr_alloc _ _)
  have hxb : Below w.heap.size w W := by rw [hW]; exact gr_tr D0.out (gr_tr (gr_alloc _ _) (gr_alloc _ _))
  have ST0 := Lib.hid (show CpSt w q p [] g (.slice none 0 0) [] 0 W from ⟨hx0, hx2, ⟨hx1, World.ownsRow_nil _ _ _ _, rfl, fun i e hv h => by simp at h⟩, fun k hk => by (cases hk), hxb⟩)
  have WZ := Lib.hid (show W.heap.size = q + 3 by rw [hW, World.size_alloc, World.size_alloc, WS.out, HQ.out])
  have ALLC := Lib.hid (fun w' h => All_at p es g dv dhs w' h HLEN.out)
  have c1 : W.cell? ⟨q, 0, none⟩ = some (.pointer (some ⟨p, 0, none⟩)) := (cell_of_row _ _ 0 _ _ _ hx0).trans rfl
  clear hW hx0 hx1 hx2 hxb
  go_upto_region 4 with fail
  rw [← HW2.out]
  rw [show (Value.pointer (some ⟨w.heap.size, 0, none⟩)) = Value.pointer (some ⟨q, 0, none⟩) by rw [HQ.out], show (Value.pointer (some ⟨W0.heap.size, 0, none⟩)) = Value.pointer (some ⟨q + 1, 0, none⟩) by rw [WS.out, HQ.out], show (Value.pointer (some ⟨W0.heap.size + 1, 0, none⟩)) = Value.pointer (some ⟨q + 2, 0, none⟩) by rw [WS.out, HQ.out]]
  clear HW2 HW c0 p1 T0 D0
  go_upto_region 5 with (go_at_call 10; go_loud (refine (ALLC.out _ (DD.out.below ST0.out.bel)).mono ?_; rintro e w1 ⟨u, rfl, h1, h2, hb⟩; have U1 := Lib.hid h1; have O1 := Lib.hid h2; have S1 := Lib.hid (ST0.out.below hb); have B1 := Lib.hid hb; clear h1 h2 hb))
  have hz : ((es.map (·.r)).zip dhs).length = es.length := by rw [List.length_zip, List.length_map, DD.out.len]; omega
  obtain ⟨zs, hzs⟩ : ∃ z, ((es.map (·.r)).zip dhs) = z := ⟨_, rfl⟩
  rw [hzs] at hz O1
  obtain ⟨n, hn⟩ : ∃ n, es.length = n := ⟨_, rfl⟩
  rw [hn] at hz O1
  have O2 := O1.out
  rw [← hz] at O2
  have SU := Lib.hid (SliceV.of_own (f := entC) (k := 11) (by decide) entC_len O2)
  have HN := Lib.hid hn; have HZ := Lib.hid hz
  have HZG := Lib.hid (show ∀ (i : Nat) (e : Ent), es[i]? = some e → rcOf zs i = e.r.cells.toArray from fun i e he => by
    obtain ⟨hv, -, h2⟩ := DD.out.get i e he
    rw [hzs] at h2
    unfold rcOf; rw [h2])
  have HON := Lib.hid (show ∀ x ∈ zs, (entC x).toArray.all (·.oneCell') = true from fun x hx => by
    rw [Array.all_eq_true_iff_forall_mem]
    intro v hv
    exact DD.out.ones v (by rw [hzs]; exact List.mem_flatMap.2 ⟨x, hx, by simpa using hv⟩))
  obtain ⟨B, hB⟩ : ∃ x, W.heap.size = x := ⟨_, rfl⟩
  rw [hB] at U1 WZ O1 ⊢
  have OL := Lib.hid (show ∀ k, u.ownBlock = some k → B + 1 ≤ k ∧ k < w1.heap.size from fun k hk => O1.out.lt k hk)
  have QL := Lib.hid (show B = q + 3 from WZ.out)
  have BL := Lib.hid (show B < w1.heap.size from (Array.getElem?_eq_some_iff.1 U1.out).1)
  have RCS := Lib.hid (show ∀ i, i < n → (rcOf zs i).size = 10 ∧ (rcOf zs i).all (·.oneCell') = true from fun i hi => by
    obtain ⟨e, he⟩ : ∃ e, es[i]? = some e := ⟨_, List.getElem?_eq_getElem (by rw [hn]; exact hi)⟩
    rw [HZG.out i e he]
    exact ⟨rfl, by simp [Dsc.Rec.cells, Value.oneCell']⟩)
  have HQL := Lib.hid (show w.heap.size ≤ q from Nat.le_of_eq HQ.out)
  have S2 := Lib.hid (show CpSt w q p [] g (.slice none 0 0) [] w1.heap.size w1 from { S1.out with new := fun k hk => by (cases hk) })
  clear O2 hz hn hzs hB FT c1
  refine (wpIn_wide (n := 8)).1 ?_
  refine rfH_ret (F := Fence.wide) (n := 8) rfl (by omega) (gf := 28) (lb := #[.pointer (some ⟨B, 0, none⟩)]) rfl trivial (enters_of Tryz.func28 (by kernel_rfl) rfl)
    (All_stops 7 (by omega) n u zs B w1 BL.out U1.out SU.out HZ.out (by rw [← HN.out]; exact HLEN.out) (fun k hk => (OL.out k hk).2) HON.out)
    (fun h1 h2 k hk => (h2 k hk).trans (h1 k hk)) (fun W1 l o o' hl _ _ _ k hk => World.putObj_heap_other (by have := (OL.out k hk).2; omega)) (Below.refl _ _) (fun _ => rfl)
    (fun x => rcOf zs x.val) 37
    (fun pre X => (∃ lv hvs, CpSt w q p (cpE es (pre.map (·.val))) g lv hvs w1.heap.size X) ∧ w1.heap.size ≤ X.heap.size)
    (fun pre X => False)
    ?hI ?hIx ⟨⟨_, _, S2.out⟩, Nat.le_refl _⟩ ?ab ?done ?stop
  case hI =>
    rintro s X Y row ⟨⟨lv, hvs, h1⟩, h3⟩ hg hr
    exact ⟨⟨lv, hvs, h1.grown HQL.out hg (B := w1.heap.size) (by have := BL.out; have := QL.out; omega) hr⟩, Nat.le_trans h3 hg.size⟩
  case hIx =>
    rintro s X Y row h hg hr
    exact h
  case ab =>
    apply Exists.intro
    apply And.intro
    case left =>
      rintro l pre x X K ⟨⟨lv, hvs, h1⟩, h3⟩ hK
      have XL := Lib.hid h3
      have HI := Lib.hid h1; have HKK := Lib.hid hK
      obtain ⟨RS, RO⟩ := RCS.out x.val x.isLt
      have RSH := Lib.hid RS; have ROH := Lib.hid RO
      obtain ⟨rc, hrc⟩ : ∃ r, rcOf zs x.val = r := ⟨_, rfl⟩
      have HRC := Lib.hid hrc
      rw [hrc] at RSH ROH ⊢
      clear h1 h3 hK RS RO hrc
      gi_wp2_with (refine wpListIn_store_new rfl 37 (.tmp 5) (.tmp 17) rfl rc 37 _ rfl rfl (by rw [RSH.out]; kernel_rfl) (by rw [RSH.out]; rfl) ROH.out ?_; intro X6 h6 hb; have Y6 := Lib.hid h6; have B6 := Lib.hid hb; clear h6 hb)
      have hk := HKK.out X.heap.size X6 ((ko_below B6.out).from _) (fun k hk => B6.out.block k (by have := (OL.out k hk).2; have := XL.out; omega)) ⟨⟨_, _, HI.out.below B6.out⟩, Nat.le_trans XL.out B6.out.size⟩ XL.out (by rw [HRC.out]; exact Y6.out)
      have hrc := HRC.out
      subst hrc
      obtain ⟨Bx, hBx⟩ : ∃ b, X.heap.size = b := ⟨_, rfl⟩
      rw [hBx] at hk ⊢
      exact hk
    case right =>
      rintro l pre ⟨k, hkn⟩ Bx X ⟨⟨lv, hvs, h1⟩, h3⟩ hBx hrow hlt
      have HI := Lib.hid h1; have XL := Lib.hid h3
      obtain ⟨⟨r, hs⟩, he⟩ : ∃ e, es[k]? = some e := ⟨_, List.getElem?_eq_getElem (by rw [HN.out]; exact hkn)⟩
      have hrc : rcOf zs k = r.cells.toArray := HZG.out k _ he
      have hrow' : X.heap[Bx]? = some (.cells #[.int .u8 (uv r.tr), .int .u8 (uv r.fa), .bool r.rf, .bool r.sc, .int .u16 (uv r.po), .int .u16 (uv r.ct), .int .u16 (uv r.qu), .string (strOf r.sv), .string (strOf r.sb), .string (strOf r.ad)] 37 (0, 0)) := by rw [hrc] at hrow; exact hrow
      have HROW := Lib.hid hrow'
      obtain ⟨hv, g1, g2⟩ := DD.out.get k _ he
      obtain ⟨hfit, hhv, hv1, hsl, hsn⟩ := DD.out.el k _ hv he g1
      obtain ⟨gq, o, cq, he1, hr1⟩ := SliceV.rng entC_len DD.out.slice k (r, hv) g2 (by decide)
      have hzl : ((es.map (·.r)).zip dhs).length = n := by rw [List.length_zip, List.length_map, DD.out.len, HN.out]; omega
      rw [hzl] at he1
      subst he1
      have GL := Lib.hid (show gq < w.heap.size from World.block_lt_of_cell? w ⟨gq, o + k * 11 + 0, none⟩ (hr1 0 _ rfl))
      have hix : ix es r = (k : Int) := HU.out.ix he
      have HFIT := Lib.hid hfit; have HSL := Lib.hid hsl; have HSN := Lib.hid hsn
      have ATX := Lib.hid (fun w' (h : DirAt w' p es g (.slice (some ⟨gq, o, none⟩) n cq) dhs) => (show Calls Tryz.prog 32 #[.pointer (some ⟨p, 0, none⟩), .agg #[.int .u8 (uv r.tr), .int .u8 (uv r.fa), .bool r.rf, .bool r.sc, .int .u16 (uv r.po), .int .u16 (uv r.ct), .int .u16 (uv r.qu), .string (strOf r.sv), .string (strOf r.sb), .string (strOf r.ad)]] w' _ from at_at p es g _ dhs r k w' h hix HLEN.out))
      have CLN := Lib.hid (fun w' (h : SliceV w' strC hv hs) => cloneHosts_at hv hs w' h hsn)
      have SV := Lib.hid (SliceV.of_own (f := strC) (k := 1) (by decide) (fun _ => rfl) (own_below hhv h1.bel))
      have HMORE := Lib.hid (cpE_more (es := es) (xs := pre.map (·.val)) he)
      obtain ⟨al, cl, hlv⟩ := own_shape h1.dir.own
      subst hlv
      have hml : (cpE es (pre.map (·.val))).length ≤ 256 := by have h9 := cpE_le es (pre.map (·.val)); rw [List.length_map] at h9; have := HLEN.out; have := HN.out; omega
      obtain ⟨ys, hys⟩ : ∃ y, cpE es (pre.map (·.val)) = y := ⟨_, rfl⟩
      rw [hys] at HI HMORE hml
      obtain ⟨m, hm⟩ : ∃ m, ys.length = m := ⟨_, rfl⟩
      have HM := Lib.hid hm
      rw [hm] at HI hml
      have HML := Lib.hid hml
      have hnb : ∀ (j : Nat) (cs : Array Value) (t : TypeId) (fr : Nat × Nat), X.heap[j]? = some (.cells cs t fr) → t ≠ 70 → ¬ (Value.slice al m cl).ownBlock = some j := fun j cs t fr hk ht hB => own_apartB HI.out.dir.own hk (Ne.symm ht) hB
      have NB := Lib.hid hnb
      have hgq : ¬ (Value.slice al m cl).ownBlock = some gq := fun h9 => by
        have := HI.out.new gq h9; have := S2.out.bel.size; have := GL.out; omega
      have DP := Lib.hid (DD.out.blk)
      have hdp := (DD.out.below HI.out.bel).blk
      have k0 : ∀ y : KeepT (fun j => (Value.slice al m cl).ownBlock = some j) X, y.val.cell? ⟨q, 0, none⟩ = some (.pointer (some ⟨p, 0, none⟩)) := fun y => y.cell ((cell_of_row _ _ 0 _ _ _ HI.out.t0).trans rfl) (NB.out _ _ _ _ HI.out.t0 (by decide))
      have k2 : ∀ y : KeepT (fun j => (Value.slice al m cl).ownBlock = some j) X, y.val.cell? ⟨q + 2, 0, none⟩ = some (.pointer (some ⟨q + 1, 0, none⟩)) := fun y => y.cell ((cell_of_row _ _ 0 _ _ _ HI.out.t3).trans rfl) (NB.out _ _ _ _ HI.out.t3 (by decide))
      have k1 : ∀ y : KeepT (fun j => (Value.slice al m cl).ownBlock = some j) X, y.val.cell? ⟨q + 1, 0, none⟩ = some (.slice al m cl) := fun y => y.cell ((cell_of_row _ _ 0 _ _ _ HI.out.dir.blk).trans rfl) (NB.out _ _ _ _ HI.out.dir.blk (by decide))
      have kd : ∀ y : KeepT (fun j => (Value.slice al m cl).ownBlock = some j) X, y.val.cell? ⟨p, 0, none⟩ = some (.slice (some ⟨gq, o, none⟩) n cq) := fun y => y.cell ((cell_of_row _ _ 0 _ _ _ hdp).trans rfl) (NB.out _ _ _ _ hdp (by decide))
      have kh : ∀ y : KeepT (fun j => (Value.slice al m cl).ownBlock = some j) X, y.val.cell? ⟨gq, o + k * 11 + 10, none⟩ = some hv := fun y => y.cell ((rng_below hr1 HI.out.bel) 10 _ rfl) hgq
      have hk256 : (k : Int) ≤ 256 := by have := HLEN.out; have := HN.out; omega
      have hnk : decide (n ≤ k) = false := decide_eq_false (by omega)
      have hnk2 : ¬ (n ≤ k) := by omega
      have BXN := Lib.hid (NB.out _ _ _ _ HROW.out (by decide))
      clear h1 h3 hrow hrow' hrc g1 g2 hr1 hzl he hfit hhv hsl hsn hml hnb hdp hm hys hix
      gi_wp2
      refine wpIn_region_planL l (fun j => (Value.slice al m cl).ownBlock = some j) [(true, 0), (true, 1), (true, 2), (true, 3), (true, 4), (true, 5), (true, 6), (true, 7), (true, 8), (true, 9), (true, 10), (true, 11), (false, 12), (true, 13), (true, 14), (true, 15), (false, 16), (true, 17), (false, 18), (false, 19), (true, 20), (true, 21)] 22 (by rintro ⟨a, w, h⟩; exact h) (by kernel_rfl) (by kernel_rfl) (by intro c a d v w h; cases d <;> exact h) ?_
      intro X1 K1 C1
      (refine wpS_firm rfl (fun K hK => ?_); simp only [Keep]; go_simp; refine hK _ ?_; clear hK K)
      (refine wpS_firm rfl (fun K hK => ?_); simp only [Keep]; go_simp; refine hK _ ?_; clear hK K)
      (refine wpS_firm rfl (fun K hK => ?_); simp only [Keep]; go_simp; refine hK _ ?_; clear hK K)
      (refine wpS_firm rfl (fun K hK => ?_); simp only [Keep]; go_simp; refine hK _ ?_; clear hK K)
      (refine wpS_firm rfl (fun K hK => ?_); simp only [Keep]; go_simp; refine hK _ ?_; clear hK K)
      refine wpS_load_rowM rfl rfl 37 (.tmp 5) rfl Bx rfl 37 #[.int .u8 (uv r.tr), .int .u8 (uv r.fa), .bool r.rf, .bool r.sc, .int .u16 (uv r.po), .int .u16 (uv r.ct), .int .u16 (uv r.qu), .string (strOf r.sv), .string (strOf r.sb), .string (strOf r.ad)] (0, 0) _ (fun x hx => Keep.blkB hx HROW.out BXN.out) Tryz.underlying37 rfl (by kernel_rfl) ?_
      (refine wpS_firm rfl (fun K hK => ?_); simp only [Keep]; go_simp; refine hK _ ?_; clear hK K)
      (refine wpS_firm rfl (fun K hK => ?_); simp only [Keep]; go_simp; refine hK _ ?_; clear hK K)
      (refine wpS_firm rfl (fun K hK => ?_); simp only [Keep]; go_simp; refine hK _ ?_; clear hK K)
      (refine wpS_firm rfl (fun K hK => ?_); simp only [Keep]; go_simp; refine hK _ ?_; clear hK K)
      (refine wpS_firm rfl (fun K hK => ?_); simp only [Keep]; go_simp; refine hK _ ?_; clear hK K)
      refine wpS_load_rowM rfl rfl 37 (.tmp 5) rfl Bx rfl 37 #[.int .u8 (uv r.tr), .int .u8 (uv r.fa), .bool r.rf, .bool r.sc, .int .u16 (uv r.po), .int .u16 (uv r.ct), .int .u16 (uv r.qu), .string (strOf r.sv), .string (strOf r.sb), .string (strOf r.ad)] (0, 0) _ (fun x hx => Keep.blkB hx HROW.out BXN.out) Tryz.underlying37 rfl (by kernel_rfl) ?_
      refine wpS_chain rfl ?_
      go_wp2_with (go_at_call 32; go_loud (refine (ATX.out _ (DD.out.below (gr_tr HI.out.bel C1.out))).mono ?_; rintro e w3 ⟨rfl, hw⟩; have C3 := Lib.hid (gr_tr C1.out hw); have K3 := Lib.hid (K1.out.below hw); clear hw))
      refine ⟨K3.out, ?_⟩
      (refine wpS_firm rfl (fun K hK => ?_); simp only [Keep]; go_simp; refine hK _ ?_; clear hK K)
      (refine wpS_firm rfl (fun K hK => ?_); simp only [Keep]; go_simp; refine hK _ ?_; clear hK K)
      (refine wpS_firm rfl (fun K hK => ?_); simp only [Keep]; go_simp; refine hK _ ?_; clear hK K)
      refine wpS_chain rfl ?_
      go_wp2_with (go_at_call 33; go_loud (refine (CLN.out _ (SliceV.below SV.out C3.out)).mono ?_; rintro e w4 ⟨hv2, rfl, ho, hw⟩; have HV := Lib.hid ho; have C4 := Lib.hid (gr_tr C3.out hw); have K4 := Lib.hid (K3.out.below hw); clear ho hw))
      obtain ⟨ahv, chv, rfl⟩ := own_shape HV.out
      refine ⟨K4.out, ?_⟩
      (refine wpS_firm rfl (fun K hK => ?_); simp only [Keep]; go_simp; refine hK _ ?_; clear hK K)
      refine wpS_chain rfl ?_
      go_wp2
      refine ⟨K4.out.alloc _, ?_⟩
      have C5 := Lib.hid (gr_tr C4.out (gr_alloc w4 (.cells #[.int .u8 (uv r.tr), .int .u8 (uv r.fa), .bool r.rf, .bool r.sc, .int .u16 (uv r.po), .int .u16 (uv r.ct), .int .u16 (uv r.qu), .string (strOf r.sv), .string (strOf r.sb), .string (strOf r.ad), .slice ahv hs.length chv] 70)))
      have K5 := Lib.hid (K4.out.alloc (.cells #[.int .u8 (uv r.tr), .int .u8 (uv r.fa), .bool r.rf, .bool r.sc, .int .u16 (uv r.po), .int .u16 (uv r.ct), .int .u16 (uv r.qu), .string (strOf r.sv), .string (strOf r.sb), .string (strOf r.ad), .slice ahv hs.length chv] 70))
      have D5 := Lib.hid (HI.out.dir.below C5.out)
      have HV5 := Lib.hid (own_below HV.out (gr_alloc w4 (.cells #[.int .u8 (uv r.tr), .int .u8 (uv r.fa), .bool r.rf, .bool r.sc, .int .u16 (uv r.po), .int .u16 (uv r.ct), .int .u16 (uv r.qu), .string (strOf r.sv), .string (strOf r.sb), .string (strOf r.ad), .slice ahv hs.length chv] 70)))
      have OW5 := Lib.hid (show (w4.alloc (.cells #[.int .u8 (uv r.tr), .int .u8 (uv r.fa), .bool r.rf, .bool r.sc, .int .u16 (uv r.po), .int .u16 (uv r.ct), .int .u16 (uv r.qu), .string (strOf r.sv), .string (strOf r.sb), .string (strOf r.ad), .slice ahv hs.length chv] 70)).ownsRow (q + 1 + 1) 70 11 (.slice al m cl) m (((ys.map (·.r)).zip hvs).flatMap entC) by have := D5.out.own; rw [HM.out] at this; exact this)
      refine wpS_chain rfl ?_
      refine app_law_at entsOk rfl (.tmp 22) (.tmp 36) rfl (q + 1 + 1) _ m _ rfl OW5.out (some ⟨w4.heap.size, 0, none⟩) 1 1 (entC (r, .slice ahv hs.length chv)) rfl (by simp) (by omega) (Row.lit w4 #[.int .u8 (uv r.tr), .int .u8 (uv r.fa), .bool r.rf, .bool r.sc, .int .u16 (uv r.po), .int .u16 (uv r.ct), .int .u16 (uv r.qu), .string (strOf r.sv), .string (strOf r.sb), .string (strOf r.ad), .slice ahv hs.length chv] 70 (0, 0)) rfl (by simp [entC, Dsc.Rec.cells, Value.oneCell']) (by have := HML.out; omega) (by have := HML.out; omega) (by have := (Array.getElem?_eq_some_iff.1 D5.out.blk).1; omega) ?_
      intro lv' w6 ho hg ha
      have O6 := Lib.hid ho; have G6 := Lib.hid hg; have A6 := Lib.hid ha
      have K6 := Lib.hid (K5.out.grownW hg (fun k hk => hk))
      clear ho hg ha
      refine ⟨K6.out, ?_⟩
      obtain ⟨al', cl', rfl⟩ := own_shape O6.out
      (refine wpS_firm rfl (fun K hK => ?_); simp only [Keep]; go_simp; refine hK _ ?_; clear hK K)
      (refine wpS_firm rfl (fun K hK => ?_); simp only [Keep]; go_simp; refine hK _ ?_; clear hK K)
      unfold wpS
      refine wpL_last rfl ?_
      have hb6 : w6.heap[q + 1]? = some (.cells #[.slice al m cl, .int .u64 (uv g)] 29 (0, 0)) := (G6.out.block (q + 1) (Array.getElem?_eq_some_iff.1 D5.out.blk).1 (fun e => by have := (OW5.out.lt (q + 1) e.symm).1; omega)).trans D5.out.blk
      have p0 : w6.cell? ⟨q + 1, 0, none⟩ = some (.slice al m cl) := (cell_of_row _ _ 0 _ _ _ hb6).trans rfl
      have z0 := frozen_of_row _ _ 0 _ _ hb6
      clear k0 k1 k2 kd kh hb6
      go_wp2
      have hx := DirAt.addedC (x := ⟨r, hs⟩) (hv := .slice ahv hs.length chv) (lv' := .slice al' (m + 1) cl') D5.out (own_base HV5.out (Nat.zero_le _)) HFIT.out HSL.out HSN.out (by rw [HM.out]; exact O6.out) G6.out rfl
      have hc := (Chg.of_below (B := DirB (q + 1) (.slice al m cl)) C5.out).trans hx.2
      have hn := HI.out.next HQL.out hx.1 hc (by
        rcases A6.out with h | h
        · exact .inl h
        · refine .inr ⟨_, h, ?_⟩
          have := (gr_alloc w4 (.cells #[.int .u8 (uv r.tr), .int .u8 (uv r.fa), .bool r.rf, .bool r.sc, .int .u16 (uv r.po), .int .u16 (uv r.ct), .int .u16 (uv r.qu), .string (strOf r.sv), .string (strOf r.sb), .string (strOf r.ad), .slice ahv hs.length chv] 70)).size
          have := C4.out.size
          have := XL.out
          omega)
      gi_wp2
      refine ⟨?_, ?_, ⟨.slice al' (m + 1) cl', hvs ++ [.slice ahv hs.length chv], ?_⟩, ?_⟩
      · refine (ko_chg hc (fun k hk o ho => ?_)).from _
        rcases hk with rfl | hk
        · rw [HI.out.dir.blk] at ho; cases ho; rfl
        · obtain ⟨o2, e1, e2⟩ := own_cells HI.out.dir.own hk
          rw [e1] at ho; cases ho; exact e2
      · intro j hj
        have h1 := OL.out j hj
        have h2 := QL.out
        refine hc.block j (Nat.lt_of_lt_of_le h1.2 XL.out) (fun hB => ?_)
        rcases hB with e | e
        · omega
        · have := HI.out.new j e; omega
      · rw [List.map_append]
        have hm2 : cpE es (pre.map (·.val) ++ List.map (·.val) [(⟨k, hkn⟩ : Fin n)]) = ys ++ [⟨r, hs⟩] := HMORE.out
        rw [hm2]
        exact hn
      · exact Nat.le_trans XL.out hc.size
  case done =>
    rintro D xs X hD hS ⟨⟨lv, hvs, h1⟩, h3⟩ hK
    have hS' : xs.map (·.val) = List.range n := hS
    rw [hS', ← HN.out, cpE_all] at h1
    have HI := Lib.hid h1; have HD := Lib.hid hD; have HKD := Lib.hid hK
    have c2 : X.cell? ⟨q + 2, 0, none⟩ = some (.pointer (some ⟨q + 1, 0, none⟩)) := (cell_of_row _ _ 0 _ _ _ h1.t3).trans rfl
    clear h1 h3 hS hS' hK hD
    go_wp2
    have V := HI.out.grown HQL.out (grownBy_putObj' X D (.deferred none)) (B := w1.heap.size) (by have := BL.out; have := QL.out; omega) (fun r e => by cases e; exact ⟨HD.out, _, HKD.out, rfl⟩)
    refine ⟨by simp, .inl ⟨_, _, rfl, run_takeDeferred HKD.out, ?_⟩⟩
    exact ⟨.pointer (some ⟨q + 1, 0, none⟩), by simp [results, Tryz.f14], q + 1, lv, hvs, rfl, V.dir, by have := HQ.out; omega, V.bel⟩
  case stop =>
    rintro D pre X hD hS h hK
    exact h.elim
end Go.Proofs.YtjcgdenkmmgmfaaGreatDoor
namespace Go.Proofs.YtjcgdenkmmgmfaaGreatDoor
open Go.RowKit Go.Shelf Dsc
set_option linter.unusedVariables false
set_option linter.unusedSimpArgs false
theorem Log_nil (st : ByteArray) (w : World) :
    Calls Tryz.prog 9 #[.pointer none, .string st] w fun e w' => e = .returned (.tuple #[.slice none 0 0, .int .i64 1]) ∧ Below w.heap.size w w' := by
  go_enter Tryz.func9, Tryz.ntmps9
  go_wp2_with (go_at_call 8; go_loud (refine (Seen_nil _ _).mono ?_; rintro e w1 ⟨rfl, hw⟩; have D1 := Lib.hid hw; clear hw))
  go_ret2
  exact ⟨rfl, D1.out⟩
theorem All_nil (w : World) :
    Calls Tryz.prog 10 #[.pointer none] w fun e w' => e = .returned (.func (.func 28) #[] #[.pointer (some ⟨w.heap.size, 0, none⟩)]) ∧ w' = w.alloc (.cells #[.slice none 0 0] 26) := by
  go_enter Tryz.func10, Tryz.ntmps10
  go_wp2
  go_ret
  exact ⟨rfl, rfl⟩
theorem Copy_nil (w : World) :
    Calls Tryz.prog 14 #[.pointer none] w fun e w' => e = .returned (.pointer none) ∧ Below w.heap.size w w' := by
  refine callsIn_wide.1 (callsIn_of_wp_marks (F := Fence.wide) (n := 8) Tryz.func14 rfl trivial ?_)
  simp only [Tryz.ntmps14, List.size_toArray, List.length_cons, List.length_nil, Nat.reduceAdd, Nat.reduceSub, Array.replicate_succ, Array.replicate_zero, List.push_toArray, List.append_toArray, List.nil_append, List.cons_append]
  refine wpIn_wide.2 ?_
  go_wp2
  refine ⟨.pointer none, by simp [results, Tryz.f14], rfl, gr_alloc _ _⟩
end Go.Proofs.YtjcgdenkmmgmfaaGreatDoor
namespace Go.Proofs.YtjcgdenkmmgmfaaGreatDoor
open Go.RowKit Go.Shelf Dsc
set_option linter.unusedVariables false
set_option linter.unusedSimpArgs false
attribute [local go_sem] Oper.semAt_some
/-- A directory and its reference, side by side with others. -/
structure Sd (p q : Nat) (dv : Value) (W : World) : Prop where
  ex : ∃ es g dhs lv hvs, DirAt W p es g dv dhs ∧ es.length ≤ 256 ∧ (∀ e ∈ es, e.r.ok = true) ∧ UQ es ∧ RefAt W es lv hvs ∧ W.heap[q]? = some (.cells #[lv, .int .u64 (uv g)] 32 (0, 0))
theorem Sd.below {p q : Nat} {dv : Value} {W W' : World} (h : Sd p q dv W) (hb : Below W.heap.size W W') : Sd p q dv W' := by
  obtain ⟨es, g, dhs, lv, hvs, h1, h2, h3, h4, h5, h6⟩ := h.ex
  exact ⟨es, g, dhs, lv, hvs, h1.below hb, h2, h3, h4, h5.below hb, blk_below h6 hb⟩
theorem wp_calm {P : Program} {c : Code} {Q : Exit → Act → World → Prop} {a : Act} {w : World} (h : c.wp P (Exit.then (Q .normal) (fun _ _ _ => False)) a w) : c.wp P Q a w :=
  Code.wp_mono (fun e a w h => by cases e <;> first | exact h | exact h.elim) h
theorem wpT_load_rowN {P : Program} {ops : Array Oper} {Q : Exit → Act → World → Prop} {S : World → Prop} {a : Act} {w : World} {i : Nat} {r : PlanT} {o : Oper} (ho : ops[i]? = some o) (hw : Region.wanted o (yielded ops a.tmps) = true) (ty : TypeId) (x : Operand) (hop : o.op = .load ty x)
    (g : Nat) (hx : a.eval x = .pointer (some ⟨g, 0, none⟩)) (t : TypeId) (cs : Array Value) (fr : Nat × Nat) (d : TypeDesc) (hg : ∀ x, S x → x.heap[g]? = some (.cells cs t fr))
    (hu : P.underlying ty = some d) (hd : (match d with | .struct _ | .array _ _ => true | _ => false) = true) (hi : (P.info? ty).map (·.size) = some cs.size)
    (h : wpT P ops Q S r (a.put o.dst (.agg cs)) w) : wpT P ops Q S (.firm i r) a w := by
  refine ⟨o, ho, ?_⟩
  rw [if_pos hw]
  refine ⟨.agg cs, fun x hS => ?_, h⟩
  unfold execOp
  simp only [hop, hx, Instr.loadAt, Instr.sureAddr, Sem.run_bind, Sem.run_pure, Result.andThen_ok, run_loadVar_row x g t ty cs fr d (hg x hS) hu hd hi]
theorem wp_meet {P : Program} {c : Code} {Q : Exit → Act → World → Prop} {a : Act} {w : World} {Facts : Nat → Nat → Value → World → Prop} (h : ∃ A : Nat → Nat → Act, c.wp P (Exit.then (fun a w => ∃ c qc cv, a = A c qc ∧ Facts c qc cv w) (fun _ _ _ => False)) a w ∧ ∀ c qc cv w, Facts c qc cv w → Q .normal (A c qc) w) : c.wp P Q a w := by
  obtain ⟨A, h1, h2⟩ := h
  refine Code.wp_mono (fun e a w h => ?_) h1
  cases e
  case normal =>
    obtain ⟨c, qc, cv, rfl, hf⟩ := h
    exact h2 _ _ _ _ hf
  all_goals exact h.elim
/-- What a step on one side does to the other. -/
theorem Sd.other {p q c qc : Nat} {dv cv : Value} {w w' w5 : World} {cs : Array Value} {es : List Ent} {g : BitVec 64} {dhs : List Value} (h : Sd c qc cv w) (hd : DirAt w p es g dv dhs) (hk : Chg (DirB p dv) w w') (hne : c ≠ p) (hap : ∀ k, cv.ownBlock = some k → dv.ownBlock ≠ some k) (hq : w'.heap[q]? = some (.cells cs 32 (0, 0))) (h5 : Chg (fun k => k = q) w' w5) (hqq : qc ≠ q) : Sd c qc cv w5 := by
  obtain ⟨es2, g2, chs, lv, hvs, h1, h2, h3, h4, h6, h7⟩ := h.ex
  have hkt := KeptT.of_chg hd hk
  have d1 : DirAt w' c es2 g2 cv chs := h1.chg (mv := dv) (q := p) hk (fun hB => by
      rcases hB with e | e
      · exact hne e
      · exact own_apartB hd.own h1.blk (by decide) e) (fun k hk1 hB => by
      rcases hB with e | e
      · subst e; exact own_apartB h1.own hd.blk (by decide) hk1
      · exact hap k hk1 e) (fun i e hv a1 a2 k hk1 hB => by
      have ho := (h1.el i e hv a1 a2).2.1
      rcases hB with e | e
      · subst e; exact own_apartB ho hd.blk (by decide) hk1
      · exact own_apartT ho hd.own (by decide) k hk1 e)
  exact ⟨es2, g2, chs, lv, hvs, d1.set hq (by decide) (by decide) (by decide) h5, h2, h3, h4, (h6.kt hkt).set hq (by decide) (by decide) h5, h5.blk (hkt qc _ _ _ h7 (by decide) (by decide)) (fun e => hqq e)⟩
theorem apart_next {w : World} {c : Nat} {es : List Ent} {g : BitVec 64} {dv dv' cv : Value} {chs : List Value} (hc : DirAt w c es g cv chs) (hb : ∀ k, cv.ownBlock = some k → dv.ownBlock ≠ some k) (ho : dv'.ownBlock = dv.ownBlock ∨ ∃ b, dv'.ownBlock = some b ∧ w.heap.size ≤ b) : ∀ k, cv.ownBlock = some k → dv'.ownBlock ≠ some k := fun k hk e => by
  rcases ho with h | ⟨b, h, h2⟩
  · exact hb k hk (h ▸ e)
  · rw [h] at e; cases e
    have := (hc.own.lt k hk).2; omega
theorem Sd.apart {w : World} {c qc : Nat} {dv dv' cv : Value} (hc : Sd c qc cv w) (hb : ∀ k, cv.ownBlock = some k → dv.ownBlock ≠ some k) (ho : dv'.ownBlock = dv.ownBlock ∨ ∃ b, dv'.ownBlock = some b ∧ w.heap.size ≤ b) : ∀ k, cv.ownBlock = some k → dv'.ownBlock ≠ some k := by
  obtain ⟨es, g, chs, lv, hvs, h1, -⟩ := hc.ex
  exact apart_next h1 hb ho
theorem Stp.R.below {w w' : World} {x : Stp} (h : Stp.R w x) (hb : Below w.heap.size w w') : Stp.R w' x := by
  obtain ⟨h1, h2, ⟨l, h3, h4⟩, h5⟩ := h
  exact ⟨h1, h2, ⟨l, SliceV.below h3 hb, h4⟩, h5⟩
set_option maxHeartbeats 6400000 in
set_option maxRecDepth 20000 in
theorem lawCopies (v1 v2 v3 : Value) (xs ys zs : List Stp) (w : World) (hv1 : SliceV w Stp.cells v1 xs) (hR1 : ∀ x ∈ xs, Stp.R w x) (hv2 : SliceV w Stp.cells v2 ys) (hR2 : ∀ x ∈ ys, Stp.R w x) (hv3 : SliceV w Stp.cells v3 zs) (hR3 : ∀ x ∈ zs, Stp.R w x) :
    Calls Tryz.prog 4 #[v1, v2, v3] w fun e w' => e = .returned (.bool true) ∧ Below w.heap.size w w' := by
  obtain ⟨W, hW⟩ : ∃ x, x = w.alloc (.cells #[.bool false] 4) := ⟨_, rfl⟩
  have D0 := Lib.hid (show Below w.heap.size w W by rw [hW]; exact gr_alloc _ _)
  have X6 := Lib.hid (show W.heap[w.heap.size]? = some (.cells #[.bool false] 4 (0, 0)) by rw [hW]; exact heap_alloc_new w _)
  have HW := Lib.hid hW
  have FEW1 := Lib.hid (fun W' (h : Below W.heap.size W W') => few_le v1 xs W' (SliceV.below hv1 (gr_tr D0.out h)) (fun x hx => Stp.R.below (hR1 x hx) (gr_tr D0.out h)))
  have FEW2 := Lib.hid (fun W' (h : Below W.heap.size W W') => few_le v2 ys W' (SliceV.below hv2 (gr_tr D0.out h)) (fun x hx => Stp.R.below (hR2 x hx) (gr_tr D0.out h)))
  have FEW3 := Lib.hid (fun W' (h : Below W.heap.size W W') => few_le v3 zs W' (SliceV.below hv3 (gr_tr D0.out h)) (fun x hx => Stp.R.below (hR3 x hx) (gr_tr D0.out h)))
  have S1 := Lib.hid hv1; have S2 := Lib.hid hv2; have S3 := Lib.hid hv3
  have R1 := Lib.hid hR1; have R2 := Lib.hid hR2; have R3 := Lib.hid hR3
  obtain ⟨a1, c1, rfl, -, hm1, hm1b, -⟩ := id hv1
  obtain ⟨a2, c2, rfl, -, hm2, hm2b, -⟩ := id hv2
  obtain ⟨a3, c3, rfl, -, hm3, hm3b, -⟩ := id hv3
  obtain ⟨n1, hn1⟩ : ∃ n, xs.length = n := ⟨_, rfl⟩
  obtain ⟨n2, hn2⟩ : ∃ n, ys.length = n := ⟨_, rfl⟩
  obtain ⟨n3, hn3⟩ : ∃ n, zs.length = n := ⟨_, rfl⟩
  have hx1 : n1 ≤ 9223372036854775807 := by omega
  have hx2 : n2 ≤ 9223372036854775807 := by omega
  have hx3 : n3 ≤ 9223372036854775807 := by omega
  have N1 := Lib.hid hn1; have N2 := Lib.hid hn2; have N3 := Lib.hid hn3
  rw [hn1] at FEW1 S1 ⊢
  rw [hn2] at FEW2 S2 ⊢
  rw [hn3] at FEW3 S3 ⊢
  have E := Lib.hid (Below.refl W.heap.size W)
  clear hW hv1 hv2 hv3 hR1 hR2 hR3 hn1 hn2 hn3 hm1 hm2 hm3 hm1b hm2b hm3b
  refine callsIn_wide.1 (callsIn_of_wp_marks (F := Fence.wide) (n := 8) Tryz.func4 rfl trivial ?_)
  simp only [Tryz.ntmps4, List.size_toArray, List.length_cons, List.length_nil, Nat.reduceAdd, Nat.reduceSub, Array.replicate_succ, Array.replicate_zero, List.push_toArray, List.append_toArray, List.nil_append, List.cons_append]
  refine wpIn_wide.2 ?_
  let FT : Exit → Act → World → Prop := bodyPost Tryz.prog Tryz.f4 (fun _ _ => True)
  go_upto_region 1 with fail
  rw [← HW.out]
  clear HW
  go_upto_region 4 with (first
    | (go_at_call 5; (with_reducible refine (FEW1.out _ E.out).mono ?_); go_loud (rintro e w1 ⟨z, rfl, h8, hw⟩; replace E := Lib.hid (gr_tr E.out hw); have H81 := Lib.hid h8; clear hw h8; cases z))
    | (go_at_call 5; (with_reducible refine (FEW2.out _ E.out).mono ?_); go_loud (rintro e w1 ⟨z, rfl, h8, hw⟩; replace E := Lib.hid (gr_tr E.out hw); have H82 := Lib.hid h8; clear hw h8; cases z))
    | (go_at_call 5; (with_reducible refine (FEW3.out _ E.out).mono ?_); go_loud (rintro e w1 ⟨z, rfl, h8, hw⟩; replace E := Lib.hid (gr_tr E.out hw); have H83 := Lib.hid h8; clear hw h8; cases z))
    | (go_at_call 6; go_loud (refine (known_any _).mono ?_; rintro e w9 ⟨rfl, hw⟩; replace E := Lib.hid (gr_tr E.out hw); have X9 := Lib.hid (blk_below X6.out E.out); have x6 : w9.cell? ⟨w.heap.size, 0, none⟩ = some (.bool false) := (cell_of_row _ _ 0 _ _ _ X9.out).trans rfl; have z6 := frozen_of_row _ _ 0 _ _ X9.out; clear hw)))
  iterate 3
    · refine ⟨.bool true, results_cell1 rfl _ _ w.heap.size _ 4 (0, 0) _ rfl (heap_setCell_same _ _ _ _ _ _ X9.out) Tryz.underlying4 rfl, rfl, ?_⟩
      exact (gr_tr D0.out E.out).setCell (p := ⟨w.heap.size, 0, none⟩) (Nat.le_refl _) _
  have H81 := Lib.hid (H81.out (by trivial)); have H82 := Lib.hid (H82.out (by trivial)); have H83 := Lib.hid (H83.out (by trivial))
  have hfn := fun (b : Nat) w => run_eql_func_nil (P := Tryz.prog) 49 _ Tryz.underlying49 rfl (.func 28) #[] #[.pointer (some ⟨b, 0, none⟩)] w
  clear FEW1 FEW2 FEW3
  go_upto_region 6 with (first
    | (go_at_call 8; go_loud (refine (Seen_nil _ _).mono ?_; rintro e w2 ⟨rfl, hw⟩; replace E := Lib.hid (gr_tr E.out hw); clear hw))
    | (go_at_call 9; go_loud (refine (Log_nil _ _).mono ?_; rintro e w3 ⟨rfl, hw⟩; replace E := Lib.hid (gr_tr E.out hw); clear hw)))
  obtain ⟨B, hB⟩ : ∃ x, w3.heap.size = x := ⟨_, rfl⟩
  have BL0 := Lib.hid hB
  go_upto_region 10 with (go_at_call 10; go_loud (refine (All_nil _).mono ?_; rintro e w4 ⟨rfl, rfl⟩))
  obtain ⟨w4, hw4⟩ : ∃ x, x = w3.alloc (.cells #[.slice none 0 0] 26) := ⟨_, rfl⟩
  have U4 := Lib.hid (show w4.heap[B]? = some (.cells #[.slice none 0 0] 26 (0, 0)) by rw [hw4, ← hB]; exact heap_alloc_new w3 _)
  have E4 := Lib.hid (show Below w.heap.size w w4 by rw [hw4]; exact gr_tr (gr_tr D0.out E.out) (gr_alloc _ _))
  have X4 := Lib.hid (show w4.heap[w.heap.size]? = some (.cells #[.bool false] 4 (0, 0)) by rw [hw4]; exact blk_below (blk_below X6.out E.out) (gr_alloc _ _))
  have BL4 := Lib.hid (show B < w4.heap.size from (Array.getElem?_eq_some_iff.1 U4.out).1)
  rw [← hw4]
  clear hw4 hB hfn FT E D0 X6
  refine (wpIn_wide (n := 8)).1 ?_
  refine rf_ret (F := Fence.wide) (n := 8) rfl (by omega) (gf := 28) (lb := #[.pointer (some ⟨B, 0, none⟩)]) rfl trivial (enters_of Tryz.func28 (by kernel_rfl) rfl)
    (All_stops 7 (by omega) 0 (.slice none 0 0) [] B w4 BL4.out U4.out (SliceV.of_own (f := entC) (k := 11) (by decide) entC_len (World.ownsRow_nil w4 0 70 11)) rfl (by omega) (fun k hk => by (cases hk)) (fun x hx => by (cases hx)))
    (fun h1 h2 k hk => (h2 k hk).trans (h1 k hk)) (fun W1 l o o' hl _ _ _ k hk => by (cases hk)) (Below.refl _ _) (fun _ => rfl)
    (fun pre X => Below w4.heap.size w4 X) (fun pre X => False)
    ?hI ?hIx (Below.refl _ _) ⟨fun _ => { tmps := #[], defers := [] }, fun l x => x.elim0, fun l pre x => x.elim0⟩ ?done ?stop
  case hI =>
    rintro s X Y row h hg hr
    exact h.grown hg h.size (fun k e => (hr k e).1)
  case hIx =>
    rintro s X Y row h hg hr
    exact h
  case stop =>
    rintro D pre X hD hS h hK
    exact h.elim
  rintro D xs' X hD hS hI hK
  have KD := Lib.hid (show X.heap[D]? = some (.deferred (some [])) from hK)
  have X9 := Lib.hid (blk_below X4.out hI)
  have E9 := Lib.hid (gr_tr E4.out hI)
  have DL := Lib.hid (show D < X.heap.size from (Array.getElem?_eq_some_iff.1 hK).1)
  have WL := Lib.hid (show w.heap.size < X.heap.size from (Array.getElem?_eq_some_iff.1 X9.out).1)
  have DG := Lib.hid (show w.heap.size ≤ D from Nat.le_trans E4.out.size hD)
  have E := Lib.hid (Below.refl X.heap.size X)
  clear hD hS hI hK xs' E4 X4 U4 BL4 BL0
  go_upto_region 13 with (first
    | (go_at_call 11; go_loud (refine (Add_nil _ _ _).mono ?_; rintro e w5 ⟨rfl, hw⟩; replace E := Lib.hid (gr_tr E.out hw); clear hw))
    | (go_at_call 12; go_loud (refine (Remove_nil _ _).mono ?_; rintro e w6 ⟨rfl, hw⟩; replace E := Lib.hid (gr_tr E.out hw); clear hw))
    | (go_at_call 13; go_loud (refine (Gen_nil _).mono ?_; rintro e w7 ⟨rfl, rfl⟩))
    | (go_at_call 14; go_loud (refine (Copy_nil _).mono ?_; rintro e w8 ⟨rfl, hw⟩; replace E := Lib.hid (gr_tr E.out hw); clear hw)))
  obtain ⟨V, hV⟩ : ∃ x, x = w8.alloc (.cells #[.slice none 0 0, .int .u64 0] 29) := ⟨_, rfl⟩
  have DS0 := Lib.hid (DirS.new (w0 := X) E.out hV)
  obtain ⟨p, hp⟩ : ∃ x, w8.heap.size = x := ⟨_, rfl⟩
  rw [hp] at DS0
  have HV := Lib.hid hV; have HP := Lib.hid hp
  clear hV hp
  go_upto_region 14 with fail
  rw [← HV.out, HP.out]
  clear HV
  go_upto_region 15 with (refine wpList_store_new rfl 32 (.tmp 14) (.tmp 81) rfl #[.slice none 0 0, .int .u64 0] 32 _ rfl rfl (by kernel_rfl) rfl (by kernel_rfl) ?_; intro w3 h3 hb; have Q3 := Lib.hid h3; have DS3 := Lib.hid (DS0.out.below hb); clear h3 hb)
  have QLq := Lib.hid (show X.heap.size ≤ V.heap.size from DS0.out.base.size)
  obtain ⟨q, hq⟩ : ∃ x, V.heap.size = x := ⟨_, rfl⟩
  rw [hq] at Q3 QLq ⊢
  have PLp := Lib.hid (show X.heap.size ≤ p by rw [← HP.out]; exact E.out.size)
  clear hq DS0 E HP
  go_upto_region 17 with fail
  go_loopw [15, 16] (fun f i wr => ∃ (k : Nat) (dv : Value), k ≤ n1 ∧ i = .int .i64 k ∧ f = .bool true ∧ Sd p q dv wr ∧ Below X.heap.size X wr) (fun _ i _ => n1 - (intOf i).toNat)
  case atStart =>
    obtain ⟨lv, hvs, h1, h2, h3, h4, h5⟩ := DS3.out
    exact ⟨0, lv, by omega, rfl, rfl, ⟨[], 0#64, hvs, .slice none 0 0, [], h1, by simp, by simp, List.nodup_nil, RefAt.none _, Q3.out⟩, h5⟩
  case round =>
    obtain ⟨k, dv, hk, rfl, rfl, hs, hb⟩ := hrel
    have SD := Lib.hid hs; have BB := Lib.hid hb
    clear hs hb DS3 Q3
    by_cases hlt : k < n1
    · obtain ⟨x, hx⟩ : ∃ x, xs[k]? = some x := ⟨_, List.getElem?_eq_getElem (by rw [N1.out]; exact hlt)⟩
      obtain ⟨gq, o, cq, he1, hr1⟩ := SliceV.rng Stp.cells_len S1.out k x hx (by decide)
      injection he1 with he1 he1' he1''
      subst he1; subst he1''
      have GL := Lib.hid (show gq < w.heap.size from World.block_lt_of_cell? w ⟨gq, o + k * 13 + 0, none⟩ (hr1 0 _ rfl))
      have RG := Lib.hid (rng_below hr1 (gr_tr E9.out BB.out))
      obtain ⟨es, g, dhs, lv, hvs, hd, h2, h3, huq, hr, hqr⟩ := SD.out.ex
      have DD := Lib.hid hd; have H2 := Lib.hid h2; have H3 := Lib.hid h3; have UU := Lib.hid huq; have RR := Lib.hid hr; have QR := Lib.hid hqr
      clear hd h2 h3 huq hr hqr
      have DOX := Lib.hid (fun w' h1 h2 h3 h4 h5 => do_any X p es g dv dhs lv hvs x w' h1 h2 h3 h4 (Stp.R.below (R1.out x (List.mem_of_getElem? hx)) E9.out) (H81.out x (List.mem_of_getElem? hx)) PLp.out h5)
      have CLL := Lib.hid (Stp.cells_len x)
      obtain ⟨xc, hxc⟩ : ∃ c, x.cells = c := ⟨_, rfl⟩
      rw [hxc] at RG CLL DOX
      clear hx hr1 hxc he1'
      have NB := Lib.hid (show ¬ (DirB p dv gq ∨ gq = q) from fun hB => by
        have := GL.out
        have := WL.out
        have := PLp.out
        have := QLq.out
        rcases hB with (e | e) | e
        · omega
        · have := (DD.out.own.lt gq e).1; omega
        · omega)
      go_upto_region 19 with fail
      refine wp_calm ?_
      refine wp_region_planW (fun k => DirB p dv k ∨ k = q) [(true, 0), (true, 2), (true, 3), (true, 4), (true, 5), (false, 1), (false, 6), (true, 7), (true, 8), (true, 9), (false, 10), (true, 11)] (by kernel_rfl) (by kernel_rfl) (by intro c a d v w h; cases d <;> exact h) ?_
      intro W1 K1 C1
      (refine wpS_firm rfl (fun K hK => ?_); simp only [Keep]; go_simp; refine hK _ ?_; clear hK K)
      (refine wpS_firm rfl (fun K hK => ?_); simp only [Keep]; go_simp; refine hK _ ?_; clear hK K)
      (refine wpS_firm rfl (fun K hK => ?_); simp only [Keep]; go_simp; refine hK _ ?_; clear hK K)
      (refine wpS_firm rfl (fun K hK => ?_); simp only [Keep]; go_simp; refine hK _ ?_; clear hK K)
      refine wpS_load_mid rfl rfl 40 (.tmp 96) rfl gq (o + k * 13) rfl xc _ (fun x hx => Keep.rng hx RG.out NB.out) Tryz.underlying40 rfl (by rw [CLL.out]; kernel_rfl) ?_
      have Q1 := Lib.hid (blk_below QR.out C1.out)
      refine wpS_chain rfl ?_
      refine wpList_load_row rfl 32 (.tmp 14) rfl q rfl 32 #[lv, .int .u64 (uv g)] (0, 0) _ Q1.out Tryz.underlying32 rfl (by kernel_rfl) ?_
      go_wp2
      refine ⟨K1.out, ?_⟩
      refine wpS_chain rfl ?_
      go_wp2_with (go_at_call 7; go_loud (refine (DOX.out _ (DD.out.below C1.out) H2.out H3.out (RR.out.below C1.out) (gr_tr BB.out C1.out)).mono ?_; rintro e w4 ⟨es', g', dv', dhs', lv', hvs', rfl, a1, a2, a3, a4, a5, a6, a7⟩; obtain ⟨al', cl', rfl⟩ := own_shape a4.own; have DD4 := Lib.hid a1; have E2 := Lib.hid a2; have E3 := Lib.hid a3; have RR4 := Lib.hid a4; have OB := Lib.hid a5; have CH4 := Lib.hid a6; have UU4 := Lib.hid (a7 UU.out); have K4 := Lib.hid (K1.out.chgK a6 (fun k hk => .inl (.inl hk))); have Q4 := Lib.hid ((KeptT.of_chg (DD.out.below C1.out) a6) q _ _ _ Q1.out (by decide) (by decide)); have B4 := Lib.hid (DirS.chg (DD.out.below C1.out) PLp.out (gr_tr BB.out C1.out) a6); clear a1 a2 a3 a4 a5 a6 a7))
      refine ⟨K4.out, ?_⟩
      (refine wpS_firm rfl (fun K hK => ?_); simp only [Keep]; go_simp; refine hK _ ?_; clear hK K)
      (refine wpS_firm rfl (fun K hK => ?_); simp only [Keep]; go_simp; refine hK _ ?_; clear hK K)
      (refine wpS_firm rfl (fun K hK => ?_); simp only [Keep]; go_simp; refine hK _ ?_; clear hK K)
      refine wpS_chain rfl ?_
      refine wpList_store_rowC rfl 32 (.tmp 14) (.tmp 99) rfl q #[.slice al' es'.length cl', .int .u64 (uv g')] rfl rfl 32 _ Q4.out (by kernel_rfl) rfl (by simp [Value.oneCell']) ?_
      intro w5 h5 hc
      have K5 := Lib.hid (K4.out.chgK hc (fun k hk => .inl (.inr hk)))
      have SD5 := Lib.hid (show Sd p q dv' w5 from ⟨es', g', dhs', _, hvs', DD4.out.set Q4.out (by decide) (by decide) (by decide) hc, E2.out, E3.out, UU4.out, RR4.out.set Q4.out (by decide) (by decide) hc, h5⟩)
      have B5 := Lib.hid (B4.out.trans (hc.below (fun k e => by have e' : k = q := e; have := QLq.out; omega) B4.out.size))
      have CH5 := Lib.hid hc
      clear h5 hc
      go_wp2
      refine ⟨K5.out, ?_⟩
      (refine wpS_firm rfl (fun K hK => ?_); simp only [Keep]; go_simp; refine hK _ ?_; clear hK K)
      unfold wpS
      go_wp2
      go_roundw
      case rel => exact ⟨k + 1, dv', by omega, by go_num, rfl, SD5.out, B5.out⟩
      case measure => simp [intOf]; omega
    · obtain ⟨es, g, dhs, lv, hvs, hd, h2, h3, huq, hr, hqr⟩ := SD.out.ex
      obtain ⟨al, cl, rfl⟩ := own_shape hr.own
      have DD := Lib.hid hd; have H2 := Lib.hid h2; have H3 := Lib.hid h3; have UU := Lib.hid huq; have RR := Lib.hid hr; have QR := Lib.hid hqr
      have CPY := Lib.hid (fun w' h => Copy_at p es g dv dhs w' h h2 huq)
      have DVL := Lib.hid (fun kk (hkk : dv.ownBlock = some kk) => (hd.own.lt kk hkk).2)
      have PLT := Lib.hid ((Array.getElem?_eq_some_iff.1 hd.blk).1)
      have QLT := Lib.hid ((Array.getElem?_eq_some_iff.1 hqr).1)
      clear hd h2 h3 huq hr hqr
      go_upto_region 20 with fail
      refine wp_meet (Facts := fun c qc cv W => Sd p q dv W ∧ Sd c qc cv W ∧ c ≠ p ∧ qc ≠ q ∧ X.heap.size ≤ c ∧ X.heap.size ≤ qc ∧ (∀ k, cv.ownBlock = some k → dv.ownBlock ≠ some k) ∧ Below X.heap.size X W) ?_
      apply Exists.intro
      apply And.intro
      case left =>
        refine wp_region_planT (fun _ => False) (.firm 0 (.firm 2 (.two 1 (.one 3 (.firm 4 (.one 5 .done))) 3 (.one 1 (.firm 4 (.one 5 .done)))))) (by kernel_rfl) (by kernel_rfl) (by intro c a d v w h; cases d <;> exact h) ?_
        intro W1 K1 C1
        (refine wpT_firm rfl (fun K hK => ?_); simp only [Keep]; go_simp; refine hK _ ?_; clear hK K)
        refine wpT_load_rowN rfl rfl 32 (.tmp 14) rfl q rfl 32 #[.slice al es.length cl, .int .u64 (uv g)] (0, 0) _ (fun x hx => Keep.blkB hx QR.out (by intro h; exact h)) Tryz.underlying32 rfl (by kernel_rfl) ?_
        refine wpT_two rfl rfl ?_ ?_
        · go_wp2_with (go_at_call 14; go_loud (refine (CPY.out _ (DD.out.below C1.out)).mono ?_; rintro e w5 ⟨c, cv, chs, rfl, hc, hcl, hw⟩; have DC := Lib.hid hc; have CL := Lib.hid (Nat.le_trans C1.out.size hcl); have C5 := Lib.hid (gr_tr C1.out hw); have K5 := Lib.hid (K1.out.below hw); clear hc hcl hw))
          refine ⟨K5.out, ?_⟩
          refine wpT_chain rfl ?_
          go_wp2
          refine ⟨K5.out.alloc _, ?_⟩
          have QN := Lib.hid (heap_alloc_new w5 (.cells #[.slice none 0 0, .int .u64 0] 32))
          have C6 := Lib.hid (gr_tr C5.out (gr_alloc w5 (.cells #[.slice none 0 0, .int .u64 0] 32)))
          have K6 := Lib.hid (K5.out.alloc (.cells #[.slice none 0 0, .int .u64 0] 32))
          have D6 := Lib.hid (DC.out.below (gr_alloc w5 (.cells #[.slice none 0 0, .int .u64 0] 32)))
          have QCL := Lib.hid (C5.out.size)
          obtain ⟨qc, hqc⟩ : ∃ y, w5.heap.size = y := ⟨_, rfl⟩
          obtain ⟨w6, hw6⟩ : ∃ y, y = w5.alloc (.cells #[.slice none 0 0, .int .u64 0] 32) := ⟨_, rfl⟩
          rw [hqc] at QCL
          rw [← hw6, hqc] at QN
          rw [← hw6] at C6 K6 D6 ⊢
          rw [hqc]
          clear hqc hw6
          (refine wpT_firm rfl (fun K hK => ?_); simp only [Keep]; go_simp; refine hK _ ?_; clear hK K)
          (refine wpT_chain rfl ?_; refine wpList_store_rowC rfl 32 (.tmp 18) (.tmp 103) rfl qc #[.slice al es.length cl, .int .u64 (uv g)] rfl rfl 32 _ QN.out (by kernel_rfl) rfl (by simp [Value.oneCell']) ?_; intro w7 h7 hc; have Q7 := Lib.hid h7; have HC7 := Lib.hid hc; have K7 := Lib.hid (K6.out.chgK hc (fun k hk => .inr (by have e' : k = qc := hk; have := QCL.out; omega))); clear h7 hc; go_wp2; refine ⟨K7.out, ?_⟩; unfold wpT; refine Exists.intro c (Exists.intro qc (Exists.intro cv (And.intro rfl ?_))); have B7 := C6.out.trans (HC7.out.below (fun k e => by have e' : k = qc := e; have := QCL.out; omega) C6.out.size); have s1 := BB.out.size; have s2 := C1.out.size; have s3 := CL.out; have s4 := PLT.out; have s5 := QLT.out; have s6 := QCL.out; exact ⟨SD.out.below B7, ⟨es, g, chs, _, hvs, D6.out.set QN.out (by decide) (by decide) (by decide) HC7.out, H2.out, H3.out, UU.out, RR.out.below B7, Q7.out⟩, by omega, by omega, by omega, by omega, fun k hk e => by (have := (D6.out.own.lt k hk).1; have := DVL.out k e; omega), gr_tr BB.out B7⟩)
        · go_wp2
          refine ⟨K1.out.alloc _, ?_⟩
          have QN := Lib.hid (heap_alloc_new W1 (.cells #[.slice none 0 0, .int .u64 0] 32))
          have C5 := Lib.hid (gr_tr C1.out (gr_alloc W1 (.cells #[.slice none 0 0, .int .u64 0] 32)))
          have K5 := Lib.hid (K1.out.alloc (.cells #[.slice none 0 0, .int .u64 0] 32))
          have QCL := Lib.hid (C1.out.size)
          obtain ⟨qc, hqc⟩ : ∃ y, W1.heap.size = y := ⟨_, rfl⟩
          obtain ⟨w5, hw5⟩ : ∃ y, y = W1.alloc (.cells #[.slice none 0 0, .int .u64 0] 32) := ⟨_, rfl⟩
          rw [hqc] at QCL
          rw [← hw5, hqc] at QN
          rw [← hw5] at C5 K5 ⊢
          rw [hqc]
          clear hqc hw5
          refine wpT_chain rfl ?_
          go_wp2_with (go_at_call 14; go_loud (refine (CPY.out _ (DD.out.below C5.out)).mono ?_; rintro e w6 ⟨c, cv, chs, rfl, hc, hcl, hw⟩; have D6 := Lib.hid hc; have CL := Lib.hid (Nat.le_trans C5.out.size hcl); have C6 := Lib.hid (gr_tr C5.out hw); have K6 := Lib.hid (K5.out.below hw); replace QN := Lib.hid (blk_below QN.out hw); clear hc hcl hw))
          refine ⟨K6.out, ?_⟩
          (refine wpT_firm rfl (fun K hK => ?_); simp only [Keep]; go_simp; refine hK _ ?_; clear hK K)
          (refine wpT_chain rfl ?_; refine wpList_store_rowC rfl 32 (.tmp 18) (.tmp 103) rfl qc #[.slice al es.length cl, .int .u64 (uv g)] rfl rfl 32 _ QN.out (by kernel_rfl) rfl (by simp [Value.oneCell']) ?_; intro w7 h7 hc; have Q7 := Lib.hid h7; have HC7 := Lib.hid hc; have K7 := Lib.hid (K6.out.chgK hc (fun k hk => .inr (by have e' : k = qc := hk; have := QCL.out; omega))); clear h7 hc; go_wp2; refine ⟨K7.out, ?_⟩; unfold wpT; refine Exists.intro c (Exists.intro qc (Exists.intro cv (And.intro rfl ?_))); have B7 := C6.out.trans (HC7.out.below (fun k e => by have e' : k = qc := e; have := QCL.out; omega) C6.out.size); have s1 := BB.out.size; have s2 := C1.out.size; have s3 := CL.out; have s4 := PLT.out; have s5 := QLT.out; have s6 := QCL.out; exact ⟨SD.out.below B7, ⟨es, g, chs, _, hvs, D6.out.set QN.out (by decide) (by decide) (by decide) HC7.out, H2.out, H3.out, UU.out, RR.out.below B7, Q7.out⟩, by omega, by omega, by omega, by omega, fun k hk e => by (have := (D6.out.own.lt k hk).1; have := DVL.out k e; omega), gr_tr BB.out B7⟩)
      case right =>
        rintro c qc cv wf ⟨f1, f2, f3, f4, f5, f6, f7, f8⟩
        have SD1 := Lib.hid f1; have SC1 := Lib.hid f2; have AP := Lib.hid f7; have BF := Lib.hid f8
        have PLc := Lib.hid f5; have QLqc := Lib.hid f6; have NCP := Lib.hid f3; have NQQ := Lib.hid f4
        obtain ⟨es2, g2, chs, lv2, hvs2, hd, h2, h3, huq, hr, hqr⟩ := f2.ex
        obtain ⟨al2, cl2, rfl⟩ := own_shape hr.own
        have QC := Lib.hid hqr
        have LK := Lib.hid (fun w' (h : Below wf.heap.size wf w') => looks_d c es2 g2 cv chs _ hvs2 [104#8] w' (hd.below h) h2 h3 (hr.below h) (by simp))
        rw [show (Value.string (strOf [104#8])) = Value.string ⟨#[104]⟩ from rfl] at LK
        clear f1 f2 f3 f4 f5 f6 f7 f8 hd h2 h3 huq hr hqr SD BB DD H2 H3 UU RR QR CPY DVL PLT QLT hlt
        have qc0 : wf.cell? ⟨qc, 0, none⟩ = some (.slice al2 es2.length cl2) := (cell_of_row _ _ 0 _ _ _ QC.out).trans rfl
        have qc1 : wf.cell? ⟨qc, 1, none⟩ = some (.int .u64 (uv g2)) := (cell_of_row _ _ 1 _ _ _ QC.out).trans rfl
        go_upto_region 24 with (first
          | (go_at_call 15; go_loud (refine (LK.out _ (Below.refl _ _)).mono ?_; rintro e wg ⟨rfl, hw⟩; replace SD1 := Lib.hid (SD1.out.below hw); replace SC1 := Lib.hid (SC1.out.below hw); replace BF := Lib.hid (gr_tr BF.out hw); clear hw)))
        clear LK QC qc0 qc1
        go_loopw [15, 19] (fun f i wr => ∃ (k : Nat) (dv cv : Value), k ≤ n2 + n3 ∧ i = .int .i64 k ∧ f = .bool true ∧ Sd p q dv wr ∧ Sd c qc cv wr ∧ Hid (∀ k, cv.ownBlock = some k → dv.ownBlock ≠ some k) ∧ Below X.heap.size X wr) (fun _ i _ => n2 + n3 - (intOf i).toNat)
        case atStart => exact ⟨0, _, cv, by omega, rfl, rfl, SD1.out, SC1.out, AP, BF.out⟩
        case round =>
          obtain ⟨k, dv, cv, hk, rfl, rfl, hs1, hs2, AP, hb⟩ := hrel
          have SD := Lib.hid hs1; have SC := Lib.hid hs2; have BB := Lib.hid hb
          clear hs1 hs2 hb SD1 SC1 BF
          by_cases h2 : k < n2
          · by_cases h3 : k < n3
            · obtain ⟨x, hx⟩ : ∃ x, ys[k]? = some x := ⟨_, List.getElem?_eq_getElem (by rw [N2.out]; exact h2)⟩
              obtain ⟨gq, o, cq, he1, hr1⟩ := SliceV.rng Stp.cells_len S2.out k x hx (by decide)
              injection he1 with he1 he1' he1''
              subst he1; subst he1''
              have GL := Lib.hid (show gq < w.heap.size from World.block_lt_of_cell? w ⟨gq, o + k * 13 + 0, none⟩ (hr1 0 _ rfl))
              have RG := Lib.hid (rng_below hr1 (gr_tr E9.out BB.out))
              obtain ⟨es, g, dhs, lv, hvs, hd, h2, h3, huq, hr, hqr⟩ := SD.out.ex
              have DD := Lib.hid hd; have H2 := Lib.hid h2; have H3 := Lib.hid h3; have UU := Lib.hid huq; have RR := Lib.hid hr; have QR := Lib.hid hqr
              clear hd h2 h3 huq hr hqr
              have DOX := Lib.hid (fun w' h1 h2 h3 h4 h5 => do_any X p es g dv dhs lv hvs x w' h1 h2 h3 h4 (Stp.R.below (R2.out x (List.mem_of_getElem? hx)) E9.out) (H82.out x (List.mem_of_getElem? hx)) PLp.out h5)
              have CLL := Lib.hid (Stp.cells_len x)
              obtain ⟨xc, hxc⟩ : ∃ c, x.cells = c := ⟨_, rfl⟩
              rw [hxc] at RG CLL DOX
              clear hx hr1 hxc he1'
              have NB := Lib.hid (show ¬ (DirB p dv gq ∨ gq = q) from fun hB => by
                have := GL.out
                have := WL.out
                have := PLp.out
                have := QLq.out
                rcases hB with (e | e) | e
                · omega
                · have := (DD.out.own.lt gq e).1; omega
                · omega)
              go_upto_region 27 with fail
              refine wp_calm ?_
              refine wp_region_planW (fun k => DirB p dv k ∨ k = q) [(true, 0), (true, 2), (true, 3), (true, 4), (true, 5), (false, 1), (false, 6), (true, 7), (true, 8), (true, 9), (false, 10), (true, 11)] (by kernel_rfl) (by kernel_rfl) (by intro c a d v w h; cases d <;> exact h) ?_
              intro W1 K1 C1
              (refine wpS_firm rfl (fun K hK => ?_); simp only [Keep]; go_simp; refine hK _ ?_; clear hK K)
              (refine wpS_firm rfl (fun K hK => ?_); simp only [Keep]; go_simp; refine hK _ ?_; clear hK K)
              (refine wpS_firm rfl (fun K hK => ?_); simp only [Keep]; go_simp; refine hK _ ?_; clear hK K)
              (refine wpS_firm rfl (fun K hK => ?_); simp only [Keep]; go_simp; refine hK _ ?_; clear hK K)
              refine wpS_load_mid rfl rfl 40 (.tmp 134) rfl gq (o + k * 13) rfl xc _ (fun x hx => Keep.rng hx RG.out NB.out) Tryz.underlying40 rfl (by rw [CLL.out]; kernel_rfl) ?_
              have Q1 := Lib.hid (blk_below QR.out C1.out)
              refine wpS_chain rfl ?_
              refine wpList_load_row rfl 32 (.tmp 14) rfl q rfl 32 #[lv, .int .u64 (uv g)] (0, 0) _ Q1.out Tryz.underlying32 rfl (by kernel_rfl) ?_
              go_wp2
              refine ⟨K1.out, ?_⟩
              refine wpS_chain rfl ?_
              go_wp2_with (go_at_call 7; go_loud (refine (DOX.out _ (DD.out.below C1.out) H2.out H3.out (RR.out.below C1.out) (gr_tr BB.out C1.out)).mono ?_; rintro e w4 ⟨es', g', dv', dhs', lv', hvs', rfl, a1, a2, a3, a4, a5, a6, a7⟩; obtain ⟨al', cl', rfl⟩ := own_shape a4.own; have DD4 := Lib.hid a1; have E2 := Lib.hid a2; have E3 := Lib.hid a3; have RR4 := Lib.hid a4; have OB := Lib.hid a5; have CH4 := Lib.hid a6; have UU4 := Lib.hid (a7 UU.out); have K4 := Lib.hid (K1.out.chgK a6 (fun k hk => .inl (.inl hk))); have Q4 := Lib.hid ((KeptT.of_chg (DD.out.below C1.out) a6) q _ _ _ Q1.out (by decide) (by decide)); have B4 := Lib.hid (DirS.chg (DD.out.below C1.out) PLp.out (gr_tr BB.out C1.out) a6); clear a1 a2 a3 a4 a5 a6 a7))
              refine ⟨K4.out, ?_⟩
              (refine wpS_firm rfl (fun K hK => ?_); simp only [Keep]; go_simp; refine hK _ ?_; clear hK K)
              (refine wpS_firm rfl (fun K hK => ?_); simp only [Keep]; go_simp; refine hK _ ?_; clear hK K)
              (refine wpS_firm rfl (fun K hK => ?_); simp only [Keep]; go_simp; refine hK _ ?_; clear hK K)
              refine wpS_chain rfl ?_
              refine wpList_store_rowC rfl 32 (.tmp 14) (.tmp 137) rfl q #[.slice al' es'.length cl', .int .u64 (uv g')] rfl rfl 32 _ Q4.out (by kernel_rfl) rfl (by simp [Value.oneCell']) ?_
              intro w5 h5 hc
              have K5 := Lib.hid (K4.out.chgK hc (fun k hk => .inl (.inr hk)))
              have SD5 := Lib.hid (show Sd p q dv' w5 from ⟨es', g', dhs', _, hvs', DD4.out.set Q4.out (by decide) (by decide) (by decide) hc, E2.out, E3.out, UU4.out, RR4.out.set Q4.out (by decide) (by decide) hc, h5⟩)
              have B5 := Lib.hid (B4.out.trans (hc.below (fun k e => by have e' : k = q := e; have := QLq.out; omega) B4.out.size))
              have CH5 := Lib.hid hc
              clear h5 hc
              go_wp2
              refine ⟨K5.out, ?_⟩
              (refine wpS_firm rfl (fun K hK => ?_); simp only [Keep]; go_simp; refine hK _ ?_; clear hK K)
              unfold wpS
              have HX := Lib.hid (SC.out.below C1.out)
              have SC5 := Lib.hid (HX.out.other (DD.out.below C1.out) CH4.out NCP.out AP.out Q4.out CH5.out NQQ.out)
              have AP5 := Lib.hid (HX.out.apart AP.out OB.out)
              replace SD := SC5
              have SP := SD5
              replace BB := B5
              clear SC SC5 SD5 B5 CH4 CH5 OB HX Q4 Q1 QR RR DD
              obtain ⟨x, hx⟩ : ∃ x, zs[k]? = some x := ⟨_, List.getElem?_eq_getElem (by rw [N3.out]; exact h3)⟩
              obtain ⟨gq, o, cq, he1, hr1⟩ := SliceV.rng Stp.cells_len S3.out k x hx (by decide)
              injection he1 with he1 he1' he1''
              subst he1; subst he1''
              have GL := Lib.hid (show gq < w.heap.size from World.block_lt_of_cell? w ⟨gq, o + k * 13 + 0, none⟩ (hr1 0 _ rfl))
              have RG := Lib.hid (rng_below hr1 (gr_tr E9.out BB.out))
              obtain ⟨es, g, dhs, lv, hvs, hd, h2, h3, huq, hr, hqr⟩ := SD.out.ex
              have DD := Lib.hid hd; have H2 := Lib.hid h2; have H3 := Lib.hid h3; have UU := Lib.hid huq; have RR := Lib.hid hr; have QR := Lib.hid hqr
              clear hd h2 h3 huq hr hqr
              have DOX := Lib.hid (fun w' h1 h2 h3 h4 h5 => do_any X c es g cv dhs lv hvs x w' h1 h2 h3 h4 (Stp.R.below (R3.out x (List.mem_of_getElem? hx)) E9.out) (H83.out x (List.mem_of_getElem? hx)) PLc.out h5)
              have CLL := Lib.hid (Stp.cells_len x)
              obtain ⟨xc, hxc⟩ : ∃ c, x.cells = c := ⟨_, rfl⟩
              rw [hxc] at RG CLL DOX
              clear hx hr1 hxc he1'
              have NB := Lib.hid (show ¬ (DirB c cv gq ∨ gq = qc) from fun hB => by
                have := GL.out
                have := WL.out
                have := PLc.out
                have := QLqc.out
                rcases hB with (e | e) | e
                · omega
                · have := (DD.out.own.lt gq e).1; omega
                · omega)
              go_upto_region 29 with fail
              refine wp_calm ?_
              refine wp_region_planW (fun k => DirB c cv k ∨ k = qc) [(true, 0), (true, 2), (true, 3), (true, 4), (true, 5), (false, 1), (false, 6), (true, 7), (true, 8), (true, 9), (false, 10), (true, 11)] (by kernel_rfl) (by kernel_rfl) (by intro c a d v w h; cases d <;> exact h) ?_
              intro W1 K1 C1
              (refine wpS_firm rfl (fun K hK => ?_); simp only [Keep]; go_simp; refine hK _ ?_; clear hK K)
              (refine wpS_firm rfl (fun K hK => ?_); simp only [Keep]; go_simp; refine hK _ ?_; clear hK K)
              (refine wpS_firm rfl (fun K hK => ?_); simp only [Keep]; go_simp; refine hK _ ?_; clear hK K)
              (refine wpS_firm rfl (fun K hK => ?_); simp only [Keep]; go_simp; refine hK _ ?_; clear hK K)
              refine wpS_load_mid rfl rfl 40 (.tmp 151) rfl gq (o + k * 13) rfl xc _ (fun x hx => Keep.rng hx RG.out NB.out) Tryz.underlying40 rfl (by rw [CLL.out]; kernel_rfl) ?_
              have Q1 := Lib.hid (blk_below QR.out C1.out)
              refine wpS_chain rfl ?_
              refine wpList_load_row rfl 32 (.tmp 18) rfl qc rfl 32 #[lv, .int .u64 (uv g)] (0, 0) _ Q1.out Tryz.underlying32 rfl (by kernel_rfl) ?_
              go_wp2
              refine ⟨K1.out, ?_⟩
              refine wpS_chain rfl ?_
              go_wp2_with (go_at_call 7; go_loud (refine (DOX.out _ (DD.out.below C1.out) H2.out H3.out (RR.out.below C1.out) (gr_tr BB.out C1.out)).mono ?_; rintro e w4 ⟨es', g', dv', dhs', lv', hvs', rfl, a1, a2, a3, a4, a5, a6, a7⟩; obtain ⟨al', cl', rfl⟩ := own_shape a4.own; have DD4 := Lib.hid a1; have E2 := Lib.hid a2; have E3 := Lib.hid a3; have RR4 := Lib.hid a4; have OB := Lib.hid a5; have CH4 := Lib.hid a6; have UU4 := Lib.hid (a7 UU.out); have K4 := Lib.hid (K1.out.chgK a6 (fun k hk => .inl (.inl hk))); have Q4 := Lib.hid ((KeptT.of_chg (DD.out.below C1.out) a6) qc _ _ _ Q1.out (by decide) (by decide)); have B4 := Lib.hid (DirS.chg (DD.out.below C1.out) PLc.out (gr_tr BB.out C1.out) a6); clear a1 a2 a3 a4 a5 a6 a7))
              refine ⟨K4.out, ?_⟩
              (refine wpS_firm rfl (fun K hK => ?_); simp only [Keep]; go_simp; refine hK _ ?_; clear hK K)
              (refine wpS_firm rfl (fun K hK => ?_); simp only [Keep]; go_simp; refine hK _ ?_; clear hK K)
              (refine wpS_firm rfl (fun K hK => ?_); simp only [Keep]; go_simp; refine hK _ ?_; clear hK K)
              refine wpS_chain rfl ?_
              refine wpList_store_rowC rfl 32 (.tmp 18) (.tmp 154) rfl qc #[.slice al' es'.length cl', .int .u64 (uv g')] rfl rfl 32 _ Q4.out (by kernel_rfl) rfl (by simp [Value.oneCell']) ?_
              intro w5 h5 hc
              have K5 := Lib.hid (K4.out.chgK hc (fun k hk => .inl (.inr hk)))
              have SD5 := Lib.hid (show Sd c qc dv' w5 from ⟨es', g', dhs', _, hvs', DD4.out.set Q4.out (by decide) (by decide) (by decide) hc, E2.out, E3.out, UU4.out, RR4.out.set Q4.out (by decide) (by decide) hc, h5⟩)
              have B5 := Lib.hid (B4.out.trans (hc.below (fun k e => by have e' : k = qc := e; have := QLqc.out; omega) B4.out.size))
              have CH5 := Lib.hid hc
              clear h5 hc
              go_wp2
              refine ⟨K5.out, ?_⟩
              (refine wpS_firm rfl (fun K hK => ?_); simp only [Keep]; go_simp; refine hK _ ?_; clear hK K)
              unfold wpS
              have HX := Lib.hid (SP.out.below C1.out)
              have AP6 := Lib.hid (fun kk h9 h8 => AP5.out kk h8 h9)
              have SP5 := Lib.hid (HX.out.other (DD.out.below C1.out) CH4.out (Ne.symm NCP.out) AP6.out Q4.out CH5.out (Ne.symm NQQ.out))
              have AP7 := Lib.hid (HX.out.apart AP6.out OB.out)
              go_wp2
              go_roundw
              case rel => exact ⟨k + 1, _, _, by omega, by go_num, rfl, SP5.out, SD5.out, Lib.hid (fun kk h9 h8 => AP7.out kk h8 h9), B5.out⟩
              case measure => simp [intOf]; omega
            · obtain ⟨x, hx⟩ : ∃ x, ys[k]? = some x := ⟨_, List.getElem?_eq_getElem (by rw [N2.out]; exact h2)⟩
              obtain ⟨gq, o, cq, he1, hr1⟩ := SliceV.rng Stp.cells_len S2.out k x hx (by decide)
              injection he1 with he1 he1' he1''
              subst he1; subst he1''
              have GL := Lib.hid (show gq < w.heap.size from World.block_lt_of_cell? w ⟨gq, o + k * 13 + 0, none⟩ (hr1 0 _ rfl))
              have RG := Lib.hid (rng_below hr1 (gr_tr E9.out BB.out))
              obtain ⟨es, g, dhs, lv, hvs, hd, h2, h3, huq, hr, hqr⟩ := SD.out.ex
              have DD := Lib.hid hd; have H2 := Lib.hid h2; have H3 := Lib.hid h3; have UU := Lib.hid huq; have RR := Lib.hid hr; have QR := Lib.hid hqr
              clear hd h2 h3 huq hr hqr
              have DOX := Lib.hid (fun w' h1 h2 h3 h4 h5 => do_any X p es g dv dhs lv hvs x w' h1 h2 h3 h4 (Stp.R.below (R2.out x (List.mem_of_getElem? hx)) E9.out) (H82.out x (List.mem_of_getElem? hx)) PLp.out h5)
              have CLL := Lib.hid (Stp.cells_len x)
              obtain ⟨xc, hxc⟩ : ∃ c, x.cells = c := ⟨_, rfl⟩
              rw [hxc] at RG CLL DOX
              clear hx hr1 hxc he1'
              have NB := Lib.hid (show ¬ (DirB p dv gq ∨ gq = q) from fun hB => by
                have := GL.out
                have := WL.out
                have := PLp.out
                have := QLq.out
                rcases hB with (e | e) | e
                · omega
                · have := (DD.out.own.lt gq e).1; omega
                · omega)
              go_upto_region 27 with fail
              refine wp_calm ?_
              refine wp_region_planW (fun k => DirB p dv k ∨ k = q) [(true, 0), (true, 2), (true, 3), (true, 4), (true, 5), (false, 1), (false, 6), (true, 7), (true, 8), (true, 9), (false, 10), (true, 11)] (by kernel_rfl) (by kernel_rfl) (by intro c a d v w h; cases d <;> exact h) ?_
              intro W1 K1 C1
              (refine wpS_firm rfl (fun K hK => ?_); simp only [Keep]; go_simp; refine hK _ ?_; clear hK K)
              (refine wpS_firm rfl (fun K hK => ?_); simp only [Keep]; go_simp; refine hK _ ?_; clear hK K)
              (refine wpS_firm rfl (fun K hK => ?_); simp only [Keep]; go_simp; refine hK _ ?_; clear hK K)
              (refine wpS_firm rfl (fun K hK => ?_); simp only [Keep]; go_simp; refine hK _ ?_; clear hK K)
              refine wpS_load_mid rfl rfl 40 (.tmp 134) rfl gq (o + k * 13) rfl xc _ (fun x hx => Keep.rng hx RG.out NB.out) Tryz.underlying40 rfl (by rw [CLL.out]; kernel_rfl) ?_
              have Q1 := Lib.hid (blk_below QR.out C1.out)
              refine wpS_chain rfl ?_
              refine wpList_load_row rfl 32 (.tmp 14) rfl q rfl 32 #[lv, .int .u64 (uv g)] (0, 0) _ Q1.out Tryz.underlying32 rfl (by kernel_rfl) ?_
              go_wp2
              refine ⟨K1.out, ?_⟩
              refine wpS_chain rfl ?_
              go_wp2_with (go_at_call 7; go_loud (refine (DOX.out _ (DD.out.below C1.out) H2.out H3.out (RR.out.below C1.out) (gr_tr BB.out C1.out)).mono ?_; rintro e w4 ⟨es', g', dv', dhs', lv', hvs', rfl, a1, a2, a3, a4, a5, a6, a7⟩; obtain ⟨al', cl', rfl⟩ := own_shape a4.own; have DD4 := Lib.hid a1; have E2 := Lib.hid a2; have E3 := Lib.hid a3; have RR4 := Lib.hid a4; have OB := Lib.hid a5; have CH4 := Lib.hid a6; have UU4 := Lib.hid (a7 UU.out); have K4 := Lib.hid (K1.out.chgK a6 (fun k hk => .inl (.inl hk))); have Q4 := Lib.hid ((KeptT.of_chg (DD.out.below C1.out) a6) q _ _ _ Q1.out (by decide) (by decide)); have B4 := Lib.hid (DirS.chg (DD.out.below C1.out) PLp.out (gr_tr BB.out C1.out) a6); clear a1 a2 a3 a4 a5 a6 a7))
              refine ⟨K4.out, ?_⟩
              (refine wpS_firm rfl (fun K hK => ?_); simp only [Keep]; go_simp; refine hK _ ?_; clear hK K)
              (refine wpS_firm rfl (fun K hK => ?_); simp only [Keep]; go_simp; refine hK _ ?_; clear hK K)
              (refine wpS_firm rfl (fun K hK => ?_); simp only [Keep]; go_simp; refine hK _ ?_; clear hK K)
              refine wpS_chain rfl ?_
              refine wpList_store_rowC rfl 32 (.tmp 14) (.tmp 137) rfl q #[.slice al' es'.length cl', .int .u64 (uv g')] rfl rfl 32 _ Q4.out (by kernel_rfl) rfl (by simp [Value.oneCell']) ?_
              intro w5 h5 hc
              have K5 := Lib.hid (K4.out.chgK hc (fun k hk => .inl (.inr hk)))
              have SD5 := Lib.hid (show Sd p q dv' w5 from ⟨es', g', dhs', _, hvs', DD4.out.set Q4.out (by decide) (by decide) (by decide) hc, E2.out, E3.out, UU4.out, RR4.out.set Q4.out (by decide) (by decide) hc, h5⟩)
              have B5 := Lib.hid (B4.out.trans (hc.below (fun k e => by have e' : k = q := e; have := QLq.out; omega) B4.out.size))
              have CH5 := Lib.hid hc
              clear h5 hc
              go_wp2
              refine ⟨K5.out, ?_⟩
              (refine wpS_firm rfl (fun K hK => ?_); simp only [Keep]; go_simp; refine hK _ ?_; clear hK K)
              unfold wpS
              have HX := Lib.hid (SC.out.below C1.out)
              have SC5 := Lib.hid (HX.out.other (DD.out.below C1.out) CH4.out NCP.out AP.out Q4.out CH5.out NQQ.out)
              have AP5 := Lib.hid (HX.out.apart AP.out OB.out)
              go_wp2
              go_roundw
              case rel => exact ⟨k + 1, _, _, by omega, by go_num, rfl, SD5.out, SC5.out, AP5, B5.out⟩
              case measure => simp [intOf]; omega
          · by_cases h3 : k < n3
            · have SP := SD
              replace SD := SC
              obtain ⟨x, hx⟩ : ∃ x, zs[k]? = some x := ⟨_, List.getElem?_eq_getElem (by rw [N3.out]; exact h3)⟩
              obtain ⟨gq, o, cq, he1, hr1⟩ := SliceV.rng Stp.cells_len S3.out k x hx (by decide)
              injection he1 with he1 he1' he1''
              subst he1; subst he1''
              have GL := Lib.hid (show gq < w.heap.size from World.block_lt_of_cell? w ⟨gq, o + k * 13 + 0, none⟩ (hr1 0 _ rfl))
              have RG := Lib.hid (rng_below hr1 (gr_tr E9.out BB.out))
              obtain ⟨es, g, dhs, lv, hvs, hd, h2, h3, huq, hr, hqr⟩ := SD.out.ex
              have DD := Lib.hid hd; have H2 := Lib.hid h2; have H3 := Lib.hid h3; have UU := Lib.hid huq; have RR := Lib.hid hr; have QR := Lib.hid hqr
              clear hd h2 h3 huq hr hqr
              have DOX := Lib.hid (fun w' h1 h2 h3 h4 h5 => do_any X c es g cv dhs lv hvs x w' h1 h2 h3 h4 (Stp.R.below (R3.out x (List.mem_of_getElem? hx)) E9.out) (H83.out x (List.mem_of_getElem? hx)) PLc.out h5)
              have CLL := Lib.hid (Stp.cells_len x)
              obtain ⟨xc, hxc⟩ : ∃ c, x.cells = c := ⟨_, rfl⟩
              rw [hxc] at RG CLL DOX
              clear hx hr1 hxc he1'
              have NB := Lib.hid (show ¬ (DirB c cv gq ∨ gq = qc) from fun hB => by
                have := GL.out
                have := WL.out
                have := PLc.out
                have := QLqc.out
                rcases hB with (e | e) | e
                · omega
                · have := (DD.out.own.lt gq e).1; omega
                · omega)
              go_upto_region 29 with fail
              refine wp_calm ?_
              refine wp_region_planW (fun k => DirB c cv k ∨ k = qc) [(true, 0), (true, 2), (true, 3), (true, 4), (true, 5), (false, 1), (false, 6), (true, 7), (true, 8), (true, 9), (false, 10), (true, 11)] (by kernel_rfl) (by kernel_rfl) (by intro c a d v w h; cases d <;> exact h) ?_
              intro W1 K1 C1
              (refine wpS_firm rfl (fun K hK => ?_); simp only [Keep]; go_simp; refine hK _ ?_; clear hK K)
              (refine wpS_firm rfl (fun K hK => ?_); simp only [Keep]; go_simp; refine hK _ ?_; clear hK K)
              (refine wpS_firm rfl (fun K hK => ?_); simp only [Keep]; go_simp; refine hK _ ?_; clear hK K)
              (refine wpS_firm rfl (fun K hK => ?_); simp only [Keep]; go_simp; refine hK _ ?_; clear hK K)
              refine wpS_load_mid rfl rfl 40 (.tmp 151) rfl gq (o + k * 13) rfl xc _ (fun x hx => Keep.rng hx RG.out NB.out) Tryz.underlying40 rfl (by rw [CLL.out]; kernel_rfl) ?_
              have Q1 := Lib.hid (blk_below QR.out C1.out)
              refine wpS_chain rfl ?_
              refine wpList_load_row rfl 32 (.tmp 18) rfl qc rfl 32 #[lv, .int .u64 (uv g)] (0, 0) _ Q1.out Tryz.underlying32 rfl (by kernel_rfl) ?_
              go_wp2
              refine ⟨K1.out, ?_⟩
              refine wpS_chain rfl ?_
              go_wp2_with (go_at_call 7; go_loud (refine (DOX.out _ (DD.out.below C1.out) H2.out H3.out (RR.out.below C1.out) (gr_tr BB.out C1.out)).mono ?_; rintro e w4 ⟨es', g', dv', dhs', lv', hvs', rfl, a1, a2, a3, a4, a5, a6, a7⟩; obtain ⟨al', cl', rfl⟩ := own_shape a4.own; have DD4 := Lib.hid a1; have E2 := Lib.hid a2; have E3 := Lib.hid a3; have RR4 := Lib.hid a4; have OB := Lib.hid a5; have CH4 := Lib.hid a6; have UU4 := Lib.hid (a7 UU.out); have K4 := Lib.hid (K1.out.chgK a6 (fun k hk => .inl (.inl hk))); have Q4 := Lib.hid ((KeptT.of_chg (DD.out.below C1.out) a6) qc _ _ _ Q1.out (by decide) (by decide)); have B4 := Lib.hid (DirS.chg (DD.out.below C1.out) PLc.out (gr_tr BB.out C1.out) a6); clear a1 a2 a3 a4 a5 a6 a7))
              refine ⟨K4.out, ?_⟩
              (refine wpS_firm rfl (fun K hK => ?_); simp only [Keep]; go_simp; refine hK _ ?_; clear hK K)
              (refine wpS_firm rfl (fun K hK => ?_); simp only [Keep]; go_simp; refine hK _ ?_; clear hK K)
              (refine wpS_firm rfl (fun K hK => ?_); simp only [Keep]; go_simp; refine hK _ ?_; clear hK K)
              refine wpS_chain rfl ?_
              refine wpList_store_rowC rfl 32 (.tmp 18) (.tmp 154) rfl qc #[.slice al' es'.length cl', .int .u64 (uv g')] rfl rfl 32 _ Q4.out (by kernel_rfl) rfl (by simp [Value.oneCell']) ?_
              intro w5 h5 hc
              have K5 := Lib.hid (K4.out.chgK hc (fun k hk => .inl (.inr hk)))
              have SD5 := Lib.hid (show Sd c qc dv' w5 from ⟨es', g', dhs', _, hvs', DD4.out.set Q4.out (by decide) (by decide) (by decide) hc, E2.out, E3.out, UU4.out, RR4.out.set Q4.out (by decide) (by decide) hc, h5⟩)
              have B5 := Lib.hid (B4.out.trans (hc.below (fun k e => by have e' : k = qc := e; have := QLqc.out; omega) B4.out.size))
              have CH5 := Lib.hid hc
              clear h5 hc
              go_wp2
              refine ⟨K5.out, ?_⟩
              (refine wpS_firm rfl (fun K hK => ?_); simp only [Keep]; go_simp; refine hK _ ?_; clear hK K)
              unfold wpS
              have HX := Lib.hid (SP.out.below C1.out)
              have AP6 := Lib.hid (fun kk (h9 : dv.ownBlock = some kk) (h8 : cv.ownBlock = some kk) => AP.out kk h8 h9)
              have SP5 := Lib.hid (HX.out.other (DD.out.below C1.out) CH4.out (Ne.symm NCP.out) AP6.out Q4.out CH5.out (Ne.symm NQQ.out))
              have AP7 := Lib.hid (HX.out.apart AP6.out OB.out)
              go_wp2
              go_roundw
              case rel => exact ⟨k + 1, _, _, by omega, by go_num, rfl, SP5.out, SD5.out, Lib.hid (fun kk h9 h8 => AP7.out kk h8 h9), B5.out⟩
              case measure => simp [intOf]; omega
            · obtain ⟨es, g, dhs, lv, hvs, hd, d2, d3, dq, hr, hqr⟩ := SD.out.ex
              obtain ⟨es2, g2, chs, lv2, hvs2, hc, c2', c3', cq, hr2, hqr2⟩ := SC.out.ex
              obtain ⟨al, cl, rfl⟩ := own_shape hr.own
              obtain ⟨al2, cl2, rfl⟩ := own_shape hr2.own
              have LKD := Lib.hid (fun w' (h : Below wr.heap.size wr w') => looks_d p es g dv dhs _ hvs [104#8] w' (hd.below h) d2 d3 (hr.below h) (by simp))
              have LKC := Lib.hid (fun w' (h : Below wr.heap.size wr w') => looks_d c es2 g2 cv chs _ hvs2 [104#8] w' (hc.below h) c2' c3' (hr2.below h) (by simp))
              rw [show (Value.string (strOf [104#8])) = Value.string ⟨#[104]⟩ from rfl] at LKD LKC
              have XX := Lib.hid ((BB.out.block _ WL.out).trans X9.out)
              have KW := Lib.hid ((BB.out.block _ DL.out).trans KD.out)
              have QC := Lib.hid hqr2
              have q0 : wr.cell? ⟨q, 0, none⟩ = some (.slice al es.length cl) := (cell_of_row _ _ 0 _ _ _ hqr).trans rfl
              have q1 : wr.cell? ⟨q, 1, none⟩ = some (.int .u64 (uv g)) := (cell_of_row _ _ 1 _ _ _ hqr).trans rfl
              clear hd d2 d3 dq hr hqr hc c2' c3' cq hr2 hqr2 SD SC AP
              go_wp2_with (first
                | (go_at_call 15; (with_reducible refine (LKD.out _ (Below.refl _ _)).mono ?_); go_loud (rintro e wg ⟨rfl, hw⟩; have G1 := Lib.hid hw; have QG := Lib.hid (blk_below QC.out hw); have qc0 : wg.cell? ⟨qc, 0, none⟩ = some (.slice al2 es2.length cl2) := (cell_of_row _ _ 0 _ _ _ QG.out).trans rfl; have qc1 : wg.cell? ⟨qc, 1, none⟩ = some (.int .u64 (uv g2)) := (cell_of_row _ _ 1 _ _ _ QG.out).trans rfl; clear hw))
                | (go_at_call 15; (with_reducible refine (LKC.out _ G1.out).mono ?_); go_loud (rintro e wh ⟨rfl, hw⟩; have G2 := Lib.hid (gr_tr G1.out hw); clear hw))
                | (go_at_call 6; go_loud (refine (known_any _).mono ?_; rintro e w9 ⟨rfl, hw⟩; have G3 := Lib.hid (gr_tr G2.out hw); have Y9 := Lib.hid (blk_below XX.out G3.out); have x6 : w9.cell? ⟨w.heap.size, 0, none⟩ = some (.bool false) := (cell_of_row _ _ 0 _ _ _ Y9.out).trans rfl; have z6 := frozen_of_row _ _ 0 _ _ Y9.out; clear hw)))
              have hdf : D ≠ w.heap.size := fun e => by have h := KD.out; rw [e, X9.out] at h; cases h
              have VD : (w9.setCell ⟨w.heap.size, 0, none⟩ (.bool true)).heap[D]? = some (.deferred (some [])) := by rw [heap_setCell_other _ _ _ _ hdf]; exact blk_below KW.out G3.out
              have VR : ((w9.setCell ⟨w.heap.size, 0, none⟩ (.bool true)).putObj D (.deferred none)).heap[w.heap.size]? = some (.cells #[.bool true] 4 (0, 0)) := (World.putObj_heap_other (Ne.symm hdf)).trans (heap_setCell_same _ _ _ _ _ _ Y9.out)
              have VB : Below w.heap.size w ((w9.setCell ⟨w.heap.size, 0, none⟩ (.bool true)).putObj D (.deferred none)) := by
                have h1 : Below w.heap.size w (w9.setCell ⟨w.heap.size, 0, none⟩ (.bool true)) := (gr_tr (gr_tr E9.out BB.out) G3.out).setCell (p := ⟨w.heap.size, 0, none⟩) (Nat.le_refl _) _
                exact h1.grown (grownBy_putObj' _ D _) h1.size (fun j e => by cases e; exact DG.out)
              refine ⟨by simp, .inl ⟨_, _, rfl, run_takeDeferred VD, ?_⟩⟩
              exact ⟨.bool true, results_cell1 rfl _ _ w.heap.size _ 4 (0, 0) _ rfl VR Tryz.underlying4 rfl, rfl, VB⟩
end Go.Proofs.YtjcgdenkmmgmfaaGreatDoor
