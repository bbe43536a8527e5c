/- Merged: FwI, FwJ, FwK, FwL, FwM, FwN. -/
import Derived.Test.YtabfmhlhdebcpaaGreatDoorFwM1
import Derived.Deep.CutBlock
import Derived.MapKept
import Derived.Lib.Overlaps
import Derived.Lib.AppendZerosOnto
import Derived.Lib.JoinLaws
import Derived.Laws.Externs
import Derived.Laws.IdiomCopy
import Derived.Laws.NewBlocks
namespace Go.Proofs.YtabfmhlhdebcpaaGreatDoor
open Go.RowKit Go.Shelf Fw
set_option linter.unusedVariables false
set_option linter.unusedSimpArgs false
attribute [local go_sem] Oper.semAt_some
theorem pcsOk : ElemOk Tryz.prog 72 97 (.agg #[.int .i64 0, .slice none 0 0]) 2 32 :=
  ⟨Tryz.underlying72, info_parts (by kernel_rfl), rfl, by decide⟩
theorem ClonePc_at (v : Value) (zs : List (Pc × Value)) (w : World) (hv : SliceV w pcC v zs) (hs : zs.length ≤ 2097152) (hone : ∀ u ∈ zs.flatMap pcC, u.oneCell' = true) :
    Calls Tryz.prog 50 #[v] w fun e w' => ∃ u, e = .returned u ∧ w'.ownsRow w.heap.size 97 2 u zs.length (zs.flatMap pcC) ∧ Below w.heap.size w w' := by
  obtain ⟨a, c, rfl, h0, h1, h2, h3⟩ := hv
  cases a with
  | none =>
    have hc := h0 rfl
    have hl : zs = [] := List.length_eq_zero_iff.1 (by omega)
    subst hl
    have hq := fun (w : World) n c => Lib.run_eql_slice_nil (P := Tryz.prog) w 72 97 none n c 0 0 Tryz.underlying72
    go_enter Tryz.func50, Tryz.ntmps50
    go_wp2
    go_ret
    exact ⟨_, rfl, World.ownsRow_nil _ _ _ _, Below.refl _ _⟩
  | some ad =>
    have H1 := Lib.hid h1; have H3 := Lib.hid h3; have H11 := Lib.hid hone
    obtain ⟨n, hn⟩ : ∃ n, zs.length = n := ⟨_, rfl⟩
    have HN := Lib.hid hn
    rw [hn] at hs H1 ⊢
    clear h0 h1 h2 h3 hone hn
    have hq := fun (w : World) n c => Lib.run_eql_slice_nil (P := Tryz.prog) w 72 97 (some ad) n c 0 0 Tryz.underlying72
    go_enter Tryz.func50, Tryz.ntmps50
    go_wp2_with (at_builtin; go_loud (refine app_law_at pcsOk rfl _ _ rfl w.heap.size (.slice (some ⟨w.heap.size, 0, none⟩) 0 0) 0 [] rfl (World.ownsRow_made w #[] 0 (Nat.le_refl _) (by decide) rfl) (some ad) n c (zs.flatMap pcC) rfl (by simp) H1.out (H3.out.below (gr_alloc _ _)) (by rw [flat_len (f := pcC) (k := 2) pcC_len, HN.out]) H11.out (by omega) (by omega) (by simp) ?_; intro v' w1 hown hgrow _; simp only [Nat.zero_add, List.nil_append] at hown))
    go_ret
    exact ⟨_, rfl, hown, (gr_alloc w _).grown hgrow (by simp) (by intro k hk; simp [Value.ownBlock] at hk; omega)⟩
theorem Fw.SlAt.few {w : World} {p : Nat} {x : St} {lv : Value} {dvs : List Value} (h : SlAt w p x lv dvs) : x.ps.length ≤ 1048576 := h.ok.sum.2
theorem Pieces_at (p : Nat) (x : St) (lv : Value) (dvs : List Value) (w : World) (hd : SlAt w p x lv dvs) :
    Calls Tryz.prog 25 #[.pointer (some ⟨p, 0, none⟩)] w fun e w' => ∃ u, e = .returned (.func (.func 51) #[] #[.pointer (some ⟨w.heap.size, 0, none⟩)]) ∧ w'.heap[w.heap.size]? = some (.cells #[u] 72 (0, 0)) ∧ w'.ownsRow (w.heap.size + 1) 97 2 u x.ps.length ((x.ps.zip dvs).flatMap pcC) ∧ Below w.heap.size w w' := by
  have hz := hd.pcs.zlen
  have hlen := hd.few
  have NON := Lib.hid (fun w h => none_at p x lv dvs w h)
  obtain ⟨zs, hzs⟩ : ∃ z, (x.ps.zip dvs) = z := ⟨_, rfl⟩
  have CLN := Lib.hid (fun w' (h : Below w.heap.size w w') => ClonePc_at lv zs w' (by rw [← hzs]; exact SliceV.below hd.pcs.slice h) (by rw [← hzs, hz]; omega) (by rw [← hzs]; exact hd.pcs.ones))
  have DD := Lib.hid hd
  rw [hzs] at hz ⊢
  have HZ := Lib.hid hz
  obtain ⟨W, hW⟩ : ∃ W, W = w.alloc (.cells #[.slice none 0 0] 72) := ⟨_, rfl⟩
  have D := Lib.hid (show Below w.heap.size w W by rw [hW]; exact gr_alloc w _)
  have X := Lib.hid (show W.heap[w.heap.size]? = some (.cells #[.slice none 0 0] 72 (0, 0)) by rw [hW]; exact heap_alloc_new w _)
  have WS := Lib.hid (show W.heap.size = w.heap.size + 1 by rw [hW]; simp)
  have HW := Lib.hid hW
  have p0 : W.cell? ⟨p, 13, none⟩ = some lv := (hd.below D.out).cpc
  obtain ⟨al, cl, hlv⟩ : ∃ a c, lv = .slice a x.ps.length c := own_shape hd.pcs.own
  subst hlv
  obtain ⟨n, hn⟩ : ∃ n, x.ps.length = n := ⟨_, rfl⟩
  rw [hn] at CLN HZ p0 DD NON ⊢
  clear hW hd hlen hz hzs hn
  go_enter Tryz.func25, Tryz.ntmps25
  go_upto_region 2 with fail
  rw [← HW.out]
  go_wp2_with (first
    | (go_at_call 40; go_loud (refine (NON.out _ (DD.out.below D.out)).mono ?_; rintro e w1 ⟨rfl, rfl⟩))
    | (go_at_call 50; go_loud (refine (CLN.out _ D.out).mono ?_; rintro e w2 ⟨u, rfl, ho, hb⟩; obtain ⟨au, cu, rfl⟩ := own_shape ho; have O2 := Lib.hid ho; have X2 := Lib.hid (blk_below X.out hb); have D2 := Lib.hid (gr_tr D.out hb); have x2 : w2.cell? ⟨w.heap.size, 0, none⟩ = some (.slice none 0 0) := (cell_of_row _ _ 0 _ _ _ X2.out).trans rfl; have z2 := frozen_of_row _ _ 0 _ _ X2.out; clear ho hb)))
  go_ret
  refine ⟨_, rfl, heap_setCell_same _ _ _ _ _ _ X2.out, ?_, D2.out.setCell (p := ⟨w.heap.size, 0, none⟩) (Nat.le_refl _) _⟩
  have h := own_chg O2.out (Chg.setCell (B := fun k => k = w.heap.size) (p := ⟨w.heap.size, 0, none⟩) w2 rfl (.slice au zs.length cu)) (fun k hk e => by have e' : k = w.heap.size := e; have := (O2.out.lt k hk).1; have := WS.out; omega)
  rw [HZ.out, WS.out] at h
  rw [HZ.out]
  exact h
/-- What the iterator hands over at a place. -/
def atOf (zs : List (Pc × Value)) (i : Nat) : Int := match zs[i]? with | some x => (x.1.at_ : Int) | none => 0
def lnOf (zs : List (Pc × Value)) (i : Nat) : Int := match zs[i]? with | some x => (x.1.d.length : Int) | none => 0
set_option maxHeartbeats 6400000 in
set_option maxRecDepth 20000 in
theorem Pieces_stops (n : Nat) (hn : 1 ≤ n) (m : Nat) (u : Value) (zs : List (Pc × Value)) (B : Nat) (w : World) (hB : B < w.heap.size) (h1 : w.heap[B]? = some (.cells #[u] 72 (0, 0)))
    (hu : SliceV w pcC u zs) (hm : zs.length = m) (hm256 : m ≤ 1048576) (hbl : ∀ k, u.ownBlock = some k → k < w.heap.size) (hon : ∀ x ∈ zs, ∃ a c, x.2 = .slice a x.1.d.length c) :
    SeqStopsK Fence.wide n Tryz.prog 51 #[.pointer (some ⟨B, 0, none⟩)] (fun i : Fin m => #[.int .i64 (atOf zs i.val), .int .i64 (lnOf zs i.val)]) (fun W W' => ∀ k, u.ownBlock = some k → W'.heap[k]? = W.heap[k]?) (fun xs => xs.map (·.val) = List.range m) (fun pre => pre.map (·.val) = List.range pre.length ∧ 0 < pre.length) m w := fun l J Jx W hW hJ hJx hY h0 => by
  have X1 := Lib.hid ((hW.block B hB).trans h1)
  have HJ := Lib.hid hJ; have HY := Lib.hid hY; have H0 := Lib.hid h0
  have SU := Lib.hid hu
  have KW := Lib.hid (show ∀ k, u.ownBlock = some k → W.heap[k]? = w.heap[k]? from fun k hk => hW.block k (hbl k hk))
  have HM := Lib.hid hm
  have HON := Lib.hid hon
  have HBL := Lib.hid hbl
  have HWW := Lib.hid hW
  obtain ⟨a, c, rfl, -⟩ := id hu
  rw [hm] at X1 SU KW HBL
  have q1 : W.cell? ⟨B, 0, none⟩ = some (.slice a m c) := (cell_of_row _ _ 0 _ _ _ X1.out).trans rfl
  refine callsIn_wide.2 ?_
  clear hW hJ hJx hY h0 h1 hu hm hbl hon
  go_enter Tryz.func51, Tryz.ntmps51
  go_wp2
  clear q1
  go_loopw [7] (fun i wr => ∃ k : Nat, k ≤ m ∧ i = .int .i64 k ∧ J (Rf.first m k) wr ∧ Hid (∀ kk, (Value.slice a m c).ownBlock = some kk → wr.heap[kk]? = w.heap[kk]?)) (fun i _ => m - (intOf i).toNat)
  case atStart => exact ⟨0, by omega, rfl, H0.out, KW⟩
  case round =>
    obtain ⟨k, hk, rfl, hJW, KK⟩ := hrel
    have JW := Lib.hid hJW
    clear hJW
    by_cases hlt : k < m
    · obtain ⟨x, hx⟩ : ∃ x, zs[k]? = some x := ⟨_, List.getElem?_eq_getElem (by rw [HM.out]; exact hlt)⟩
      obtain ⟨gq, o, cq, he1, hr1⟩ := SliceV.rng pcC_len SU.out k x hx (by decide)
      injection he1 with he1 he1' he1''
      subst he1; subst he1''
      have R1 := Lib.hid (rng_same hr1 (KK.out gq rfl))
      have HAT := Lib.hid (show atOf zs k = (x.1.at_ : Int) by unfold atOf; rw [hx])
      have HLN := Lib.hid (show lnOf zs k = (x.1.d.length : Int) by unfold lnOf; rw [hx])
      obtain ⟨ad, cd, hsd⟩ := HON.out x (List.mem_of_getElem? hx)
      have JM := Lib.hid (Rf.first_more m k hlt).symm
      have JL := Lib.hid (Rf.first_len m k (Nat.le_of_lt hlt))
      have JL1 := Lib.hid (Rf.first_len m (k + 1) hlt)
      have JV := Lib.hid (Rf.first_val m (k + 1) hlt)
      have HYM := Lib.hid (fun (W1 : World) (hj : J (Rf.first m k) W1) => HY.out (Rf.first m k) ⟨k, hlt⟩ W1 hj (by rw [JL.out]; exact hlt))
      obtain ⟨A, hA⟩ : ∃ z, (x.1.at_ : Int) = z := ⟨_, rfl⟩
      obtain ⟨L, hL⟩ : ∃ z, x.1.d.length = z := ⟨_, rfl⟩
      have R2 := Lib.hid (show wr.rangeAt gq (o + k * 2) [Value.int .i64 A, .slice ad L cd] by
        have := R1.out
        unfold pcC at this
        rw [hsd, hA, hL] at this
        exact this)
      rw [hA] at HAT
      rw [hL] at HLN
      clear hx hr1 he1' hsd hA hL R1
      go_upto_region 3 with (first
        | (refine wpList_load_mid rfl 97 (.tmp 9) rfl gq (o + k * 2) rfl [Value.int .i64 A, .slice ad L cd] _ R2.out Tryz.underlying97 rfl (by kernel_rfl) ?_)
        | (refine wpList_store_new rfl 97 (.tmp 4) (.tmp 10) rfl #[.int .i64 A, .slice ad L cd] 97 _ rfl rfl (by kernel_rfl) rfl (by simp [Value.oneCell']) ?_; intro w3 hh hw; have Y3 := Lib.hid hh; have B3 := Lib.hid hw; clear hh hw))
      have J1 := Lib.hid (HJ.out _ _ _ none JW.out (grown_of_below B3.out) (fun r e => by cases e))
      have K3 := Lib.hid (show ∀ kk, (Value.slice (some ⟨gq, o, none⟩) m c).ownBlock = some kk → w3.heap[kk]? = w.heap[kk]? from fun kk hkk => (B3.out.block kk (by
        have h9 := HBL.out kk hkk
        have h8 := KK.out kk hkk
        rcases Nat.lt_or_ge kk wr.heap.size with h7 | h7
        · exact h7
        · rw [Array.getElem?_eq_none h7, Array.getElem?_eq_getElem h9] at h8; cases h8)).trans (KK.out kk hkk))
      obtain ⟨fn, tmps, assign, body, hy, hR⟩ := HYM.out _ J1.out
      rw [HAT.out, HLN.out] at hy
      have y0 : w3.cell? ⟨wr.heap.size, 0, none⟩ = some (.int .i64 A) := (cell_of_row _ _ 0 _ _ _ Y3.out).trans rfl
      have y1 : w3.cell? ⟨wr.heap.size, 1, none⟩ = some (.slice ad L cd) := (cell_of_row _ _ 1 _ _ _ Y3.out).trans rfl
      refine (wpIn_wide (n := n)).1 ?_
      gi_wp2
      refine hR.mono ?_
      clear hy hR
      rintro e W3 (⟨rfl, hJ3, hk3⟩ | ⟨rfl, hJx3⟩)
      · have J3 := Lib.hid hJ3
        have T3 := Lib.hid (show ∀ kk, (Value.slice (some ⟨gq, o, none⟩) m c).ownBlock = some kk → W3.heap[kk]? = w.heap[kk]? from fun kk hkk => (hk3 kk hkk).trans (K3.out kk hkk))
        clear hJ3 hk3
        gi_wp2
        go_wp2
        go_roundw
        case rel => exact ⟨k + 1, by omega, by go_num, by rw [← JM.out]; exact J3.out, T3⟩
        case measure => simp [intOf]; omega
      · have J3 := Lib.hid hJx3
        clear hJx3
        gi_wp2
        go_wp2
        refine bodyPost_ret (results_none rfl _ _ _) rfl ?_
        exact ⟨⟨_, rfl⟩, .inr ⟨_, ⟨by rw [JM.out, JL1.out]; exact JV.out, by rw [JM.out, JL1.out]; omega⟩, J3.out⟩⟩
    · obtain rfl : k = m := by omega
      go_wp2
      go_end0
      exact ⟨⟨_, rfl⟩, .inl ⟨_, Rf.first_val _ _ (Nat.le_refl _), JW.out⟩⟩
end Go.Proofs.YtabfmhlhdebcpaaGreatDoor
namespace Go.Proofs.YtabfmhlhdebcpaaGreatDoor
open Go.RowKit Go.Shelf Fw
set_option linter.unusedVariables false
set_option linter.unusedSimpArgs false
attribute [local go_sem] Oper.semAt_some
/-- How store ends. -/
def StorePost (p : Nat) (x : St) (k : Int) (w : World) (e : Ending) (w' : World) : Prop :=
  ∃ r lv dvs, e = .returned (.tuple #[.int .i64 r, .agg (stC (stE x k))]) ∧ (stE x k = 0 → r = pick x k) ∧ SlAt w' p (stS x k) lv dvs ∧ Chg (fun k => k = p) w w'
/-- A result in a slot and one in a cell (a row). -/
theorem results_tmp_row {P : Program} {fn : Func} {p u : Tmp} {ty : TypeId} (h : fn.results = #[.tmp u, .cell p ty]) (tmps : Array Value) (w : World) (g : Nat) (t : TypeId) (cs : Array Value) (fr : Nat × Nat) (d : TypeDesc)
    (hp : tmps.getD p undef = .pointer (some ⟨g, 0, none⟩)) (hg : w.heap[g]? = some (.cells cs t fr))
    (hu : P.underlying ty = some d) (hd : (match d with | .struct _ | .array _ _ => true | _ => false) = true) (hi : (P.info? ty).map (·.size) = some cs.size) :
    (results fn tmps).run P w = .ok (.tuple #[tmps.getD u undef, .agg cs]) w := by
  have hp' : tmps[p]?.getD undef = .pointer (some ⟨g, 0, none⟩) := by simpa using hp
  simp [results, h, hp', asAddr, run_loadVar_row w g t ty cs fr d hg hu hd hi]
/-- The state while store goes over the pieces. -/
structure StoSt (W9 : World) (B : Nat) (s : Bool × Int) (X : World) : Prop where
  chg : Chg (fun k => k = B ∨ k = B + 1) W9 X
  z : X.heap[B]? = some (.cells #[.bool s.1] 4 (0, 0))
  e : X.heap[B + 1]? = some (.cells #[.int .i64 s.2] 3 (0, 0))
theorem StoSt.grown {W9 X Y : World} {B : Nat} {s : Bool × Int} {row : Option Nat} (h : StoSt W9 B s X) (hB : B + 1 < W9.heap.size) (hg : X.grownBy Y row) (hr : ∀ r, row = some r → W9.heap.size ≤ r) : StoSt W9 B s Y := by
  have hs := h.chg.size
  refine ⟨⟨hg.os.trans h.chg.os, hg.tape.trans h.chg.tape, hg.output.trans h.chg.output, Nat.le_trans hs hg.size, fun k hk hn => (hg.block k (Nat.lt_of_lt_of_le hk hs) (fun e => by have := hr k e.symm; omega)).trans (h.chg.block k hk hn)⟩, ?_, ?_⟩
  · exact (hg.block B (by omega) (fun e => by have := hr B e.symm; omega)).trans h.z
  · exact (hg.block (B + 1) (by omega) (fun e => by have := hr (B + 1) e.symm; omega)).trans h.e
theorem StoSt.next {W9 X X1 : World} {B : Nat} {s : Bool × Int} {z : Bool} {e : Int} (h : StoSt W9 B s X) (hb : Below X.heap.size X X1) : StoSt W9 B (z, e) ((X1.setCell ⟨B, 0, none⟩ (.bool z)).setCell ⟨B + 1, 0, none⟩ (.int .i64 e)) := by
  refine ⟨((h.chg.trans (Chg.of_below hb)).trans (Chg.setCell (B := fun k => k = B ∨ k = B + 1) (p := ⟨B, 0, none⟩) X1 (.inl rfl) _)).trans (Chg.setCell (B := fun k => k = B ∨ k = B + 1) (p := ⟨B + 1, 0, none⟩) _ (.inr rfl) _), ?_, ?_⟩
  · rw [heap_setCell_other _ _ _ _ (show B ≠ B + 1 by omega)]
    exact heap_setCell_same _ _ _ _ _ _ (blk_below h.z hb)
  · exact (heap_setCell_same (X1.setCell ⟨B, 0, none⟩ (.bool z)) (B + 1) 0 #[.int .i64 s.2] _ (.int .i64 e) (by rw [heap_setCell_other _ _ _ _ (show B + 1 ≠ B by omega)]; exact blk_below h.e hb)).trans rfl
set_option maxRecDepth 20000 in
set_option maxHeartbeats 6400000 in
theorem store_at (p : Nat) (x : St) (lv : Value) (dvs : List Value) (k : Int) (w : World) (h : SlAt w p x lv dvs) :
    Calls Tryz.prog 64 #[.pointer (some ⟨p, 0, none⟩), .int .i64 k] w (StorePost p x k w) := by
  have WRT := Lib.hid (fun j b w h hb => writable_at p x lv dvs j b w h hb)
  obtain ⟨W, hW⟩ : ∃ W, W = w.alloc (.cells #[.int .u8 0, .int .u8 0, .bool false, .bool false] 56) := ⟨_, rfl⟩
  have D := Lib.hid (show Below w.heap.size w W by rw [hW]; exact gr_alloc w _)
  have X := Lib.hid (show W.heap[w.heap.size]? = some (.cells #[.int .u8 0, .int .u8 0, .bool false, .bool false] 56 (0, 0)) by rw [hW]; exact heap_alloc_new w _)
  have HW := Lib.hid hW
  have S1 := Lib.hid (h.below D.out)
  have PQ := Lib.hid (show p < w.heap.size from (Array.getElem?_eq_some_iff.1 h.blk).1)
  have N7 := Lib.hid (cfgOk_is h.ok.cfg).2.1
  have c0 := S1.out.cn
  obtain ⟨n, hn⟩ : ∃ n, x.c.n = n := ⟨_, rfl⟩
  rw [hn] at c0 N7
  have HN := Lib.hid hn
  obtain ⟨PK, hPK⟩ : ∃ z, pick x k = z := ⟨_, rfl⟩
  have HPK := Lib.hid hPK
  clear hW h hn hPK
  refine callsIn_wide.1 (callsIn_of_wp_marks (F := Fence.wide) (n := 8) Tryz.func64 rfl trivial ?_)
  simp only [Tryz.ntmps64, List.size_toArray, List.length_cons, List.length_nil, Nat.reduceAdd, Nat.reduceSub, Array.replicate_succ, Array.replicate_zero, List.push_toArray, List.append_toArray, List.nil_append, List.cons_append]
  refine wpIn_wide.2 ?_
  let FT : Exit → Act → World → Prop := bodyPost Tryz.prog Tryz.f64 (fun _ _ => True)
  go_upto_region 1 with fail
  rw [← HW.out]
  go_upto_block 0 with fail
  go_cut [1, 6] (fun v1 v6 wx => v1 = .int .i64 PK ∧ (∃ j : Int, v6 = .int .i64 j) ∧ W = wx)
  case first =>
    go_wp2
    go_loopw [1, 6] (fun s i wr => ∃ j : Nat, i = .int .i64 ((j : Int) + 1) ∧ j ≤ 7 ∧ (∃ s' : Int, s = .int .i64 s' ∧ Hid ((s' = 0 ∧ k = 0 ∧ (∀ i : Nat, i < j → Fw.wr x ((i : Int) + 1) = false)) ∨ (s' ≠ 0 ∧ s' = PK))) ∧ W = wr) (fun s i _ => 9 - (intOf i).toNat)
    case atStart =>
      refine ⟨0, rfl, by omega, ⟨k, rfl, Lib.hid ?_⟩, rfl⟩
      by_cases h : k = 0
      · exact .inl ⟨h, h, fun i hi => by omega⟩
      · exact .inr ⟨h, by rw [← HPK.out]; unfold pick; rw [if_neg h]⟩
    case round =>
      obtain ⟨j, rfl, hj, ⟨s', rfl, HS⟩, rfl⟩ := hrel
      by_cases hs : s' = 0
      · subst hs
        have HS2 := Lib.hid (show k = 0 ∧ ∀ i : Nat, i < j → Fw.wr x ((i : Int) + 1) = false by rcases HS.out with h | h; exact ⟨h.2.1, h.2.2⟩; exact absurd rfl h.1)
        by_cases hle : (j : Int) + 1 ≤ n
        · have hj7 : j < 7 := by have := N7.out; omega
          obtain ⟨b, hb⟩ : ∃ b, Fw.wr x ((j : Int) + 1) = b := ⟨_, rfl⟩
          have HB := Lib.hid hb
          clear hb
          cases b
          · have HS3 := Lib.hid (show ∀ i : Nat, i < j + 1 → Fw.wr x ((i : Int) + 1) = false from fun i hi => by
              rcases Nat.lt_or_ge i j with h | h
              · exact HS2.out.2 i h
              · have e : i = j := by omega
                subst e; exact HB.out)
            go_wp2_with (go_at_call 82; go_loud (refine (WRT.out _ _ _ S1.out HB.out).mono ?_; rintro e w1 ⟨rfl, rfl⟩))
            go_roundw
            case rel => exact ⟨j + 1, by go_num, by omega, ⟨0, rfl, Lib.hid (.inl ⟨rfl, HS2.out.1, HS3.out⟩)⟩, trivial⟩
            case measure => simp [intOf]; omega
          · have HP := Lib.hid (show (j : Int) + 1 = PK by
              rw [← HPK.out]
              unfold pick
              rw [if_pos HS2.out.1]
              exact (low_at hj7 HS2.out.2 HB.out).symm)
            go_wp2_with (go_at_call 82; go_loud (refine (WRT.out _ _ _ S1.out HB.out).mono ?_; rintro e w1 ⟨rfl, rfl⟩))
            go_roundw
            case rel => exact ⟨j + 1, by go_num, by omega, ⟨(j : Int) + 1, rfl, Lib.hid (.inr ⟨by omega, HP.out⟩)⟩, trivial⟩
            case measure => simp [intOf]; omega
        · have HP := Lib.hid (show (0 : Int) = PK by
            rw [← HPK.out]
            unfold pick
            rw [if_pos HS2.out.1]
            refine (low_no (fun i hi => ?_)).symm
            rcases Nat.lt_or_ge i j with h | h
            · exact HS2.out.2 i h
            · exact wr_big (by rw [HN.out]; omega))
          go_wp2
          go_meet
          exact ⟨by rw [HP.out], ⟨_, rfl⟩, rfl⟩
      · have HP := Lib.hid (show s' = PK by rcases HS.out with h | h; exact absurd h.1 hs; exact h.2)
        have hs2 : (s' == 0) = false := by simpa using hs
        go_wp2
        go_meet
        exact ⟨by rw [HP.out], ⟨_, rfl⟩, rfl⟩
  case rest =>
    obtain ⟨rfl, ⟨j, rfl⟩, rfl⟩ := hcut
    obtain ⟨b, hb⟩ : ∃ b, Fw.wr x PK = b := ⟨_, rfl⟩
    have HB := Lib.hid hb
    clear hb
    cases b
    · have SE := Lib.hid (show stE x k = 262 by unfold stE; rw [HPK.out, HB.out, if_neg (by decide)])
      have SS := Lib.hid (show stS x k = x by unfold stS; rw [HPK.out, HB.out, if_neg (by decide)])
      go_wp2_with (first
        | (go_at_call 82; go_loud (refine (WRT.out _ _ _ S1.out HB.out).mono ?_; rintro e w1 ⟨rfl, rfl⟩))
        | (go_at_call 41; go_loud (refine (status_at 262 _ Kn.k262).mono ?_; rintro e w1 ⟨rfl, hb⟩; have X1 := Lib.hid (blk_below X.out hb); have S2 := Lib.hid (S1.out.below hb); have D1 := Lib.hid (gr_tr D.out hb); clear hb))
        | (refine wpList_store_rowC rfl 56 (.tmp 5) (.tmp 37) rfl w.heap.size (stC 262) rfl rfl 56 _ X1.out (by kernel_rfl) rfl (stC_one _) ?_; intro w9 h9 hc; have X9 := Lib.hid h9; have C9 := Lib.hid hc; clear h9 hc))
      refine ⟨_, results_tmp_row rfl _ _ w.heap.size 56 _ (0, 0) _ rfl X9.out Tryz.underlying56 rfl (by kernel_rfl), ?_⟩
      exact ⟨0, lv, dvs, by rw [SE.out]; rfl, fun h => (by rw [SE.out] at h; cases h), by rw [SS.out]; exact S2.out.set X1.out (by decide) (by decide) (by decide) C9.out, newer_chg (Chg.of_below (B := fun k => k = p) D1.out) (Nat.le_refl _) C9.out⟩
    · have c13 := S1.out.cpc
      obtain ⟨al, cl, hlv⟩ : ∃ a c, lv = .slice a x.ps.length c := own_shape S1.out.pcs.own
      subst hlv
      have SUM := Lib.hid S1.out.ok.sum
      obtain ⟨m, hm⟩ : ∃ m, x.ps.length = m := ⟨_, rfl⟩
      have HM := Lib.hid hm
      have hm63 : m ≤ 1048576 := by rw [← hm]; exact SUM.out.2
      rw [hm] at S1 c13 WRT
      have SLC := Lib.hid S1.out.pcs.slice
      have ZL := Lib.hid (show (x.ps.zip dvs).length = m by rw [S1.out.pcs.zlen, hm])
      clear hm
      have WSZ := Lib.hid (show w.heap.size < W.heap.size from (Array.getElem?_eq_some_iff.1 X.out).1)
      go_upto_region 8 with (go_at_call 82; go_loud (refine (WRT.out _ _ _ S1.out HB.out).mono ?_; rintro e w1 ⟨rfl, rfl⟩))
      go_wp2
      clear c0 c13
      go_loopw [7, 43] (fun v7 i wr => ∃ kk : Nat, kk ≤ m ∧ i = .int .i64 kk ∧ (∃ ai li ci, v7 = .slice ai li ci ∧ Hid (wr.ownsRow W.heap.size 5 1 (.slice ai li ci) (cat (x.ps.take kk)).length (by8 (cat (x.ps.take kk))))) ∧ Below W.heap.size W wr) (fun _ i _ => m - (intOf i).toNat)
      case atStart => exact ⟨0, by omega, rfl, ⟨none, 0, 0, rfl, Lib.hid (World.ownsRow_nil _ _ _ _)⟩, Below.refl _ _⟩
      case round =>
        obtain ⟨kk, hkk, rfl, ⟨ai, li, ci, rfl, IM⟩, hb⟩ := hrel
        have DB := Lib.hid hb
        have HBS := Lib.hid hb.size
        clear hb
        by_cases hlt : kk < m
        · obtain ⟨pp, hpp⟩ : ∃ y, x.ps[kk]? = some y := ⟨_, List.getElem?_eq_getElem (by rw [HM.out]; exact hlt)⟩
          obtain ⟨dv, hd1, hd2⟩ := S1.out.pcs.get kk pp hpp
          obtain ⟨gq, o, cq, he1, hr1⟩ := SliceV.rng pcC_len SLC.out kk (pp, dv) hd2 (by decide)
          rw [ZL.out] at he1
          injection he1 with he1 he1' he1''
          subst he1; subst he1''
          have hdo := S1.out.pcs.el kk pp dv hpp hd1
          obtain ⟨ad, cd, hsd⟩ := own_shape hdo
          have DV := Lib.hid (BytesV.of_own (own_below hdo DB.out))
          have R1 := Lib.hid (rng_below hr1 DB.out)
          have HT := Lib.hid (show cat (x.ps.take (kk + 1)) = cat (x.ps.take kk) ++ pp.d by
            rw [List.take_add_one, hpp]; unfold cat; rw [List.flatMap_append]; simp)
          have HLE := Lib.hid (show (cat (x.ps.take kk)).length + pp.d.length ≤ 140737488355328 by
            have h1 : cat (x.ps.take (kk + 1)) ++ cat (x.ps.drop (kk + 1)) = cat x.ps := by unfold cat; rw [← List.flatMap_append, List.take_append_drop]
            have h2 := congrArg List.length h1
            rw [HT.out, List.length_append, List.length_append] at h2
            have := SUM.out.1
            omega)
          obtain ⟨L, hL⟩ : ∃ z, pp.d.length = z := ⟨_, rfl⟩
          have HLL := Lib.hid hL
          have R2 := Lib.hid (show wr.rangeAt gq (o + kk * 2) [Value.int .i64 ((pp.at_ : Nat) : Int), .slice ad L cd] by
            have := R1.out
            unfold pcC at this
            rw [hsd, hL] at this
            exact this)
          rw [hsd, hL] at DV
          obtain ⟨A, hA⟩ : ∃ z, ((pp.at_ : Nat) : Int) = z := ⟨_, rfl⟩
          rw [hA] at R2
          clear hpp hd1 hd2 hr1 he1' hdo hsd hL hA R1
          go_upto_region 12 with (first
            | (refine wpList_load_mid rfl 97 (.tmp 45) rfl gq (o + kk * 2) rfl [Value.int .i64 A, .slice ad L cd] _ R2.out Tryz.underlying97 rfl (by kernel_rfl) ?_)
            | (refine wpList_store_new rfl 97 (.tmp 9) (.tmp 46) rfl #[.int .i64 A, .slice ad L cd] 97 _ rfl rfl (by kernel_rfl) rfl (by simp [Value.oneCell']) ?_; intro w3 hh hw; have Y3 := Lib.hid hh; have B3 := Lib.hid hw; clear hh hw))
          have y1 : w3.cell? ⟨wr.heap.size, 1, none⟩ = some (.slice ad L cd) := (cell_of_row _ _ 1 _ _ _ Y3.out).trans rfl
          have IM3 := Lib.hid (own_below IM.out B3.out)
          have DV3 := Lib.hid (DV.out.below B3.out)
          have DB3 := Lib.hid (gr_tr DB.out B3.out)
          go_wp2_with (at_builtin; go_loud (refine app_more rfl (.tmp 47) (.tmp 49) rfl _ W.heap.size _ _ rfl IM3.out DB3.out.size _ pp.d rfl DV3.out HLE.out ?_; intro v' w4 ho hg hb; obtain ⟨a4, c4, rfl⟩ := own_shape ho; have O4 := Lib.hid ho; have B4 := Lib.hid (DB3.out.trans hb); clear ho hg hb))
          go_roundw
          case rel =>
            refine ⟨kk + 1, by omega, by go_num, ⟨_, _, _, rfl, Lib.hid ?_⟩, B4.out⟩
            rw [HT.out, List.length_append]
            exact O4.out
          case measure => simp [intOf]; omega
        · obtain rfl : kk = m := by omega
          have IMG := IM.out
          rw [← HM.out, List.take_length] at IMG
          have I1 := Lib.hid IMG
          clear IM IMG
          obtain ⟨W9, hW9⟩ : ∃ V, V = (wr.alloc (.cells #[.bool true] 4)).alloc (.cells #[.int .i64 0] 3) := ⟨_, rfl⟩
          have HW9 := Lib.hid hW9
          have B9 : Below wr.heap.size wr W9 := by rw [hW9]; exact gr_tr (gr_alloc _ _) (gr_alloc _ _)
          have T10 := Lib.hid (show W9.heap[wr.heap.size]? = some (.cells #[.bool true] 4 (0, 0)) by rw [hW9]; exact blk_below (heap_alloc_new wr _) (gr_alloc _ _))
          have T11 := Lib.hid (show W9.heap[wr.heap.size + 1]? = some (.cells #[.int .i64 0] 3 (0, 0)) by rw [hW9]; have h := heap_alloc_new (wr.alloc (.cells #[.bool true] 4)) (.cells #[.int .i64 0] 3); rw [World.size_alloc] at h; exact h)
          have WS9 := Lib.hid (show W9.heap.size = wr.heap.size + 2 by rw [hW9, World.size_alloc, World.size_alloc])
          have S9 := Lib.hid (S1.out.below (gr_tr DB.out B9))
          have I9 := Lib.hid (own_below I1.out B9)
          have X9 := Lib.hid (blk_below X.out (gr_tr DB.out B9))
          have D9 := Lib.hid (gr_tr D.out (gr_tr DB.out B9))
          clear hW9 B9
          go_upto_region 15 with fail
          rw [← HW9.out]
          clear HW9 I1 DB FT
          have PCS := Lib.hid (fun w h => Pieces_at p x (.slice al kk cl) dvs w h)
          obtain ⟨B, hB⟩ : ∃ b, wr.heap.size = b := ⟨_, rfl⟩
          have HBB := Lib.hid (show W.heap.size ≤ B by rw [← hB]; exact HBS.out)
          rw [hB] at T10 T11 WS9 ⊢
          clear hB
          obtain ⟨zs, hzs⟩ : ∃ z, x.ps.zip dvs = z := ⟨_, rfl⟩
          have HZS := Lib.hid hzs
          rw [hzs] at PCS ZL
          go_wp2_with (go_at_call 25; go_loud (refine (PCS.out _ S9.out).mono ?_; rintro e w10 ⟨u, rfl, h1, h2, hb⟩; rw [HM.out] at h2; have U1 := Lib.hid h1; have O1 := Lib.hid h2; have B10 := Lib.hid hb; clear h1 h2 hb))
          have O2 := O1.out
          rw [← ZL.out] at O2
          have SU := Lib.hid (SliceV.of_own (f := pcC) (k := 2) (by decide) pcC_len O2)
          have OL := Lib.hid (show ∀ k, u.ownBlock = some k → W9.heap.size + 1 ≤ k ∧ k < w10.heap.size from fun k hk => O1.out.lt k hk)
          have BL := Lib.hid (show W9.heap.size < w10.heap.size from (Array.getElem?_eq_some_iff.1 U1.out).1)
          have HON := Lib.hid (show ∀ y ∈ zs, ∃ a c, y.2 = .slice a y.1.d.length c from fun y hy => by
            obtain ⟨j, hj⟩ := List.mem_iff_getElem?.1 hy
            rw [← HZS.out] at hj
            obtain ⟨h1, h2⟩ := List.getElem?_zip_eq_some.1 hj
            exact own_shape (S9.out.pcs.el j _ _ h1 h2))
          have ST0 := Lib.hid (show StoSt w10 B (true, 0) w10 from ⟨Chg.refl _ _, blk_below T10.out B10.out, blk_below T11.out B10.out⟩)
          have HF := Lib.hid (show ∀ i, 0 ≤ lnOf zs i ∧ lnOf zs i ≤ 1048576 from fun i => by
            unfold lnOf
            split
            · rename_i y hy
              rw [← HZS.out] at hy
              obtain ⟨h1, h2⟩ := List.getElem?_zip_eq_some.1 hy
              have hmem := List.mem_of_getElem? h1
              have h3 := S9.out.ok.top _ hmem
              have h4 := (cfgOk_is S9.out.ok.cfg).2.2.2.1
              omega
            · omega)
          clear O2 hzs
          refine (wpIn_wide (n := 8)).1 ?_
          refine rf_ret (F := Fence.wide) (n := 8) rfl (by omega) (gf := 51) (lb := #[.pointer (some ⟨W9.heap.size, 0, none⟩)]) rfl trivial (enters_of Tryz.func51 (by kernel_rfl) rfl)
            (Pieces_stops 7 (by omega) kk u zs W9.heap.size w10 BL.out U1.out SU.out ZL.out hm63 (fun k hk => (OL.out k hk).2) HON.out)
            (fun h1 h2 k hk => (h2 k hk).trans (h1 k hk)) (fun W1 l o o' hl _ _ _ k hk => World.putObj_heap_other (by have := (OL.out k hk).2; omega)) (Below.refl _ _) (fun _ => rfl)
            (fun pre X => StoSt w10 B (seqW (fun i => (atOf zs i, lnOf zs i)) (pre.map (·.val))) X ∧ w10.heap.size ≤ X.heap.size)
            (fun pre X => False)
            ?hI ?hIx ⟨ST0.out, Nat.le_refl _⟩ ?ab ?done ?stop
          case hI =>
            rintro s X Y row ⟨h1, h3⟩ hg hr
            exact ⟨h1.grown (by have := BL.out; have := WS9.out; omega) hg (fun r e => (hr r e).1), Nat.le_trans h3 hg.size⟩
          case hIx =>
            rintro s X Y row h hg hr
            exact h
          case ab =>
            apply Exists.intro
            apply And.intro
            case left =>
              rintro l y X K hK
              gi_wp2
              exact hK
            case right =>
              rintro l pre y X ⟨h1, h3⟩ hlt2
              have HBD := seqW_bound (fun i => (atOf zs i, lnOf zs i)) HF.out (pre.map (·.val))
              have HMR := Lib.hid (show seqW (fun i => (atOf zs i, lnOf zs i)) ((pre ++ [y]).map (·.val)) = foldC (seqW (fun i => (atOf zs i, lnOf zs i)) (pre.map (·.val))) (atOf zs y.val, lnOf zs y.val) by rw [List.map_append]; exact seqW_more _ _ _)
              have hln := HF.out y.val
              rw [List.length_map] at HBD
              obtain ⟨⟨z, e⟩, hs⟩ : ∃ s, seqW (fun i => (atOf zs i, lnOf zs i)) (pre.map (·.val)) = s := ⟨_, rfl⟩
              rw [hs] at h1 HBD HMR
              obtain ⟨A, hA⟩ : ∃ z, atOf zs y.val = z := ⟨_, rfl⟩
              obtain ⟨L, hL⟩ : ∃ z, lnOf zs y.val = z := ⟨_, rfl⟩
              rw [hA, hL]
              rw [hA, hL] at HMR
              rw [hL] at hln
              have hE0 : 0 ≤ e := HBD.1
              have hE1 : e ≤ (pre.length : Int) * 1048576 := HBD.2
              have hw : RowKit.wrap64 (e + L) = e + L := by unfold RowKit.wrap64; omega
              obtain ⟨F, hF⟩ : ∃ z, e + L = z := ⟨_, rfl⟩
              obtain ⟨be, hbe⟩ : ∃ z, (A == e) = z := ⟨_, rfl⟩
              have HFC := Lib.hid (show foldC (z, e) (A, L) = (z && be, F) by unfold foldC; rw [hF, hbe])
              rw [hF] at hw
              have HWW := Lib.hid (show RowKit.wrap64 (e + L) = F by rw [hF]; exact hw)
              have HI := Lib.hid h1; have XL := Lib.hid h3
              have q11 : ∀ v : KeepT (fun j => j = B) X, v.val.cell? ⟨B + 1, 0, none⟩ = some (.int .i64 e) := fun v => v.cell ((cell_of_row _ _ 0 _ _ _ HI.out.e).trans rfl) (by omega)
              clear h1 h3 HBD hs hA hL hln hE0 hE1 hlt2 hw hF
              gi_wp2
              refine wpIn_region_planL l (fun j => j = B) [(true, 6), (true, 7), (true, 8), (false, 0), (true, 1), (true, 2), (true, 3), (true, 4), (true, 5), (false, 9)] 10 (by rintro ⟨a, w, h⟩; exact h) (by kernel_rfl) (by kernel_rfl) (by intro c a d v w h; cases d <;> exact h) ?_
              intro X1 K1 C1
              have c10 : X1.cell? ⟨B, 0, none⟩ = some (.bool z) := below_cellE C1.out ((cell_of_row _ _ 0 _ _ _ HI.out.z).trans rfl)
              have f10 : X1.frozen? ⟨B, 0, none⟩ = false := frozen_of_row _ _ 0 _ _ (blk_below HI.out.z C1.out)
              have f11 : X1.frozen? ⟨B + 1, 0, none⟩ = false := frozen_of_row _ _ 0 _ _ (blk_below HI.out.e C1.out)
              have c11 : X1.cell? ⟨B + 1, 0, none⟩ = some (.int .i64 e) := below_cellE C1.out ((cell_of_row _ _ 0 _ _ _ HI.out.e).trans rfl)
              have NX := Lib.hid (HI.out.next (z := z && be) (e := F) C1.out)
              have KO := Lib.hid (show KeepsOthers X ((X1.setCell ⟨B, 0, none⟩ (.bool (z && be))).setCell ⟨B + 1, 0, none⟩ (.int .i64 F)) from
                ((ko_below C1.out).trans (KeepsOthers.setCell _ _ _)).trans (KeepsOthers.setCell _ _ _))
              have KP := Lib.hid (show ∀ k, u.ownBlock = some k → ((X1.setCell ⟨B, 0, none⟩ (.bool (z && be))).setCell ⟨B + 1, 0, none⟩ (.int .i64 F)).heap[k]? = X.heap[k]? from fun k hk => by
                have h1 := OL.out k hk
                have h2 := WS9.out
                rw [heap_setCell_other _ _ _ _ (show k ≠ B + 1 by omega), heap_setCell_other _ _ _ _ (show k ≠ B by omega)]
                exact C1.out.block k (by have := XL.out; omega))
              have SZ := Lib.hid (show w10.heap.size ≤ ((X1.setCell ⟨B, 0, none⟩ (.bool (z && be))).setCell ⟨B + 1, 0, none⟩ (.int .i64 F)).heap.size from Nat.le_trans XL.out KO.out.size)
              cases z
              · (refine wpS_firm rfl (fun K hK => ?_); simp only [Keep]; go_simp; refine hK _ ?_; clear hK K)
                (refine wpS_firm rfl (fun K hK => ?_); simp only [Keep]; go_simp; refine hK _ ?_; clear hK K)
                (refine wpS_firm rfl (fun K hK => ?_); simp only [Keep]; go_simp; refine hK _ ?_; clear hK K)
                refine wpS_chain rfl ?_
                go_wp2
                refine ⟨K1.out, ?_⟩
                repeat (refine wpS_firm rfl (fun K hK => ?_); simp only [Keep]; go_simp; refine hK _ ?_; clear hK K)
                refine wpS_chain rfl ?_
                go_wp2
                refine ⟨K1.out.put (p := ⟨B, 0, none⟩) rfl _, ?_⟩
                unfold wpS
                refine wpL_last rfl ?_
                clear q11
                go_wp2
                rw [HWW.out]
                gi_wp2
                refine ⟨KO.out, KP.out, ?_, SZ.out⟩
                rw [HMR.out, HFC.out]
                exact NX.out
              · (refine wpS_firm rfl (fun K hK => ?_); simp only [Keep]; go_simp; refine hK _ ?_; clear hK K)
                (refine wpS_firm rfl (fun K hK => ?_); simp only [Keep]; go_simp; refine hK _ ?_; clear hK K)
                (refine wpS_firm rfl (fun K hK => ?_); simp only [Keep]; go_simp; refine hK _ ?_; clear hK K)
                refine wpS_chain rfl ?_
                go_wp2
                refine ⟨K1.out, ?_⟩
                repeat (refine wpS_firm rfl (fun K hK => ?_); simp only [Keep]; go_simp; refine hK _ ?_; clear hK K)
                refine wpS_chain rfl ?_
                go_wp2
                refine ⟨K1.out.put (p := ⟨B, 0, none⟩) rfl _, ?_⟩
                unfold wpS
                refine wpL_last rfl ?_
                clear q11
                go_wp2
                rw [HWW.out]
                gi_wp2
                refine ⟨KO.out, KP.out, ?_, SZ.out⟩
                rw [HMR.out, HFC.out]
                exact NX.out
          case done =>
            rintro D xs X hD hS ⟨h1, h3⟩ hK
            have hS' : xs.map (·.val) = List.range kk := hS
            rw [hS', ← HM.out, seqW_all (fun i => (atOf zs i, lnOf zs i)) x.ps (fun i pp hpp => by
              obtain ⟨dv, -, hd2⟩ := S9.out.pcs.get i pp hpp
              rw [HZS.out] at hd2
              show (atOf zs i, lnOf zs i) = _
              unfold atOf lnOf
              rw [hd2])] at h1
            have hPB : p < B := by have := WS9.out; have := X9.out; have := PQ.out; have := WSZ.out; have := HBB.out; omega
            have hSB : w.heap.size < B := by have := WSZ.out; have := HBB.out; omega
            have S10 := S9.out.below B10.out
            have SX := Lib.hid (show SlAt X p x (.slice al kk cl) dvs from S10.chg h1.chg (fun e => by omega) (fun k hk e => by
                rcases e with e | e
                · subst e; exact own_apartB2 S10.pcs.own ST0.out.z (by decide) hk
                · subst e; exact own_apartB2 S10.pcs.own ST0.out.e (by decide) hk) (fun i dv hi k hk e => by
                have hl : i < x.ps.length := by rw [← S10.pcs.len]; exact (List.getElem?_eq_some_iff.1 hi).1
                have ho := S10.pcs.el i x.ps[i] dv (List.getElem?_eq_getElem hl) hi
                rcases e with e | e
                · subst e; exact own_apartB2 ho ST0.out.z (by decide) hk
                · subst e; exact own_apartB2 ho ST0.out.e (by decide) hk))
            have I10 := own_below I9.out B10.out
            have IX := Lib.hid (own_chg I10 h1.chg (fun k hk e => by
                rcases e with e | e
                · subst e; exact own_apartB2 I10 ST0.out.z (by decide) hk
                · subst e; exact own_apartB2 I10 ST0.out.e (by decide) hk))
            have XX := Lib.hid (h1.chg.blk (blk_below X9.out B10.out) (fun e => by omega))
            have DX := Lib.hid (show Below w.heap.size w X from (gr_tr D9.out B10.out).trans (h1.chg.below (fun k e => by omega) (gr_tr D9.out B10.out).size))
            have ZX := Lib.hid h1.z
            have HD := Lib.hid hD; have HK := Lib.hid hK
            have c13 := SX.out.cpc
            have f13 := SX.out.fz 13
            obtain ⟨X2, hX2⟩ : ∃ V, V = X.setCell ⟨p, 13, none⟩ (.slice none 0 0) := ⟨_, rfl⟩
            have S2 := Lib.hid (show SlAt X2 p { x with ps := [] } (.slice none 0 0) [] by rw [hX2]; exact SX.out.clear)
            have C2 := Lib.hid (show Chg (fun k => k = p) X X2 by rw [hX2]; exact Chg.setCell (B := fun k => k = p) (p := ⟨p, 13, none⟩) X rfl _)
            have I2 := Lib.hid (BytesV.of_own (own_chg IX.out C2.out (fun k hk e => by have e' : k = p := e; subst e'; exact own_apartB2 IX.out SX.out.blk (by decide) hk)))
            have Z2 := Lib.hid (C2.out.blk ZX.out (fun e => by have e' : B = p := e; omega))
            have X22 := Lib.hid (C2.out.blk XX.out (fun e => by have e' : w.heap.size = p := e; have := PQ.out; omega))
            have K2 := Lib.hid (C2.out.blk HK.out (fun e => by have e' : D = p := e; have := HD.out; have := BL.out; have := WS9.out; omega))
            have C2W := Lib.hid ((Chg.of_below (B := fun k => k = p) DX.out).trans C2.out)
            have HX2 := Lib.hid hX2
            have PAR := Lib.hid (fun v w h => parsed_at v (cat x.ps) w h SUM.out.1)
            obtain ⟨zc, hzc⟩ : ∃ z, contig 0 x.ps = z := ⟨_, rfl⟩
            obtain ⟨zi, hzi⟩ : ∃ z, imgIs (cat x.ps) = z := ⟨_, rfl⟩
            have HNM := Lib.hid (show nm x.ps = if zc && zi then Wire.rstrip ((cat x.ps).take 8) else [] by unfold nm; rw [hzc, hzi])
            have HNN := Lib.hid (show nm x.ps = [] ↔ (zc && zi) = false by rw [nm_nil, hzc, hzi])
            have Z2 : Hid (X2.heap[B]? = some (.cells #[.bool zc] 4 (0, 0))) := Lib.hid (by rw [← hzc]; exact Z2.out)
            have HZI := Lib.hid hzi
            have HDB := Lib.hid (show B < D by have := HD.out; have := BL.out; have := WS9.out; omega)
            have HDW := Lib.hid (show w.heap.size < D by have := HDB.out; omega)
            have HDP := Lib.hid (show p < D by have := HDB.out; omega)
            clear h1 hS hS' hPB hSB S10 I10 hX2 hzc h3 hD hK hzi
            go_upto_region 20 with fail
            rw [← HX2.out]
            clear HX2 c13 f13
            go_upto_region 21 with (go_at_call 83; go_loud (refine (PAR.out _ _ I2.out).mono ?_; rintro e w3 ⟨s, rfl, hs, hb⟩; rw [HZI.out] at hs; rw [HZI.out]; have HS := Lib.hid hs; have S3 := Lib.hid (S2.out.below hb); have Z3 := Lib.hid (blk_below Z2.out hb); have X3 := Lib.hid (blk_below X22.out hb); have K3 := Lib.hid (blk_below K2.out hb); have C3 := Lib.hid (C2W.out.trans (Chg.of_below hb)); clear hs hb))
            have c10 : w3.cell? ⟨B, 0, none⟩ = some (.bool zc) := (cell_of_row _ _ 0 _ _ _ Z3.out).trans rfl
            have hfin : (zc && zi) = false → stE x k = 263 ∧ stS x k = { x with ps := [] } := fun h => by
              have h2 := HNN.out.2 h
              refine ⟨?_, ?_⟩
              · unfold stE; rw [HPK.out, HB.out, if_pos rfl, if_pos h2]
              · unfold stS; rw [HPK.out, HB.out, if_pos rfl, if_pos h2]
            have HFIN := Lib.hid hfin
            have NPD := Lib.hid (fun (Y : World) (S : SlAt Y p { x with ps := [] } (.slice none 0 0) []) => (S.chg (Chg.of_grown (B := fun k => k = D) (grownBy_putObj' Y D (.deferred none)) (fun k hk => by cases hk; rfl)) (fun e => by have e' : p = D := e; have := HDP.out; omega) (fun k hk => by cases hk) (fun i dv hi => by simp at hi) : SlAt (Y.putObj D (.deferred none)) p { x with ps := [] } (.slice none 0 0) []))
            clear hfin
            cases zc
            · (go_wp2_with (first | (go_at_call 41; go_loud (refine (status_at 263 _ Kn.k263).mono ?_; rintro e w4 ⟨rfl, hb⟩; have S4 := Lib.hid (S3.out.below hb); have X4 := Lib.hid (blk_below X3.out hb); have K4 := Lib.hid (blk_below K3.out hb); have C4 := Lib.hid (C3.out.trans (Chg.of_below hb)); clear hb)) | (refine wpList_store_rowC rfl 56 (.tmp 5) (.tmp 79) rfl w.heap.size (stC 263) rfl rfl 56 _ X4.out (by kernel_rfl) rfl (stC_one _) ?_; intro w9 h9 hc; have X9 := Lib.hid h9; have C9 := Lib.hid hc; clear h9 hc)))
              obtain ⟨SE, SS⟩ := HFIN.out rfl
              have K9 := C9.out.blk K4.out (fun e => by have e' : D = w.heap.size := e; have := HDW.out; omega)
              refine ⟨by simp, .inl ⟨_, _, rfl, run_takeDeferred K9, ?_⟩⟩
              refine ⟨_, results_tmp_row rfl _ _ w.heap.size 56 _ (0, 0) _ rfl ((World.putObj_heap_other (by have := HDW.out; omega)).trans X9.out) Tryz.underlying56 rfl (by kernel_rfl), ?_⟩
              exact ⟨0, .slice none 0 0, [], by rw [SE]; rfl, fun h => (by rw [SE] at h; cases h), by rw [SS]; exact NPD.out _ (S4.out.set X4.out (by decide) (by decide) (by decide) C9.out), newer_chg (newer_chg C4.out (Nat.le_refl _) C9.out) (Nat.le_of_lt HDW.out) (Chg.of_grown (B := fun k => k = D) (grownBy_putObj' w9 D (.deferred none)) (fun k hk => by cases hk; rfl))⟩
            · cases zi
              · (go_wp2_with (first | (go_at_call 41; go_loud (refine (status_at 263 _ Kn.k263).mono ?_; rintro e w4 ⟨rfl, hb⟩; have S4 := Lib.hid (S3.out.below hb); have X4 := Lib.hid (blk_below X3.out hb); have K4 := Lib.hid (blk_below K3.out hb); have C4 := Lib.hid (C3.out.trans (Chg.of_below hb)); clear hb)) | (refine wpList_store_rowC rfl 56 (.tmp 5) (.tmp 79) rfl w.heap.size (stC 263) rfl rfl 56 _ X4.out (by kernel_rfl) rfl (stC_one _) ?_; intro w9 h9 hc; have X9 := Lib.hid h9; have C9 := Lib.hid hc; clear h9 hc)))
                obtain ⟨SE, SS⟩ := HFIN.out rfl
                have K9 := C9.out.blk K4.out (fun e => by have e' : D = w.heap.size := e; have := HDW.out; omega)
                refine ⟨by simp, .inl ⟨_, _, rfl, run_takeDeferred K9, ?_⟩⟩
                refine ⟨_, results_tmp_row rfl _ _ w.heap.size 56 _ (0, 0) _ rfl ((World.putObj_heap_other (by have := HDW.out; omega)).trans X9.out) Tryz.underlying56 rfl (by kernel_rfl), ?_⟩
                exact ⟨0, .slice none 0 0, [], by rw [SE]; rfl, fun h => (by rw [SE] at h; cases h), by rw [SS]; exact NPD.out _ (S4.out.set X4.out (by decide) (by decide) (by decide) C9.out), newer_chg (newer_chg C4.out (Nat.le_refl _) C9.out) (Nat.le_of_lt HDW.out) (Chg.of_grown (B := fun k => k = D) (grownBy_putObj' w9 D (.deferred none)) (fun k hk => by cases hk; rfl))⟩
              · obtain ⟨w1, w2, -, -⟩ := wr_is HB.out
                have hsn : s = nm x.ps := by rw [HNM.out]; exact HS.out rfl
                have hne : nm x.ps ≠ [] := fun e => by have := HNN.out.1 e; cases this
                obtain ⟨jn, hjn⟩ : ∃ jn : Nat, PK = (jn : Int) + 1 := ⟨(PK - 1).toNat, by omega⟩
                have hj7 : jn < 7 := by have := N7.out; have := HN.out; omega
                have hjr : (PK - 1).toNat = jn := by omega
                have SE := Lib.hid (show stE x k = 0 by unfold stE; rw [HPK.out, HB.out, if_pos rfl, if_neg hne])
                have SS := Lib.hid (show stS x k = { x with ps := [], s := { x.s with revs := x.s.revs.set jn s } } by unfold stS; rw [HPK.out, HB.out, if_pos rfl, if_neg hne, hjr, hsn])
                obtain ⟨r0, hr0⟩ : ∃ r, x.s.revs[jn]? = some r := ⟨_, List.getElem?_eq_getElem (by have := S3.out.ok.len; show jn < x.s.revs.length; have h9 : x.s.revs.length = 7 := this; omega)⟩
                have cr : w3.cell? ⟨p, 6 + jn, none⟩ = some (.string (strOf r0)) := S3.out.crev jn r0 hr0
                have fr := S3.out.fz (6 + jn)
                obtain ⟨W5, hW5⟩ : ∃ V, V = w3.setCell ⟨p, 6 + jn, none⟩ (.string (strOf s)) := ⟨_, rfl⟩
                have C5 := Lib.hid (show Chg (fun k => k = p) w3 W5 by rw [hW5]; exact Chg.setCell (B := fun k => k = p) (p := ⟨p, 6 + jn, none⟩) w3 rfl _)
                have S5 := Lib.hid (show SlAt W5 p (stS x k) (.slice none 0 0) [] from ⟨by
                  rw [SS.out, hW5]
                  refine (heap_setCell_same w3 p (6 + jn) _ _ (.string (strOf s)) S3.out.blk).trans ?_
                  rw [St.set_rev { x with ps := [] } (.slice none 0 0) jn s hj7 S3.out.ok.len], by rw [SS.out]; exact PcsAt.nil _ _, SX.out.ok.st k⟩)
                have HW5 := Lib.hid hW5
                have X5 := Lib.hid (C5.out.blk X3.out (fun e => by have e' : w.heap.size = p := e; have := PQ.out; omega))
                have K5 := Lib.hid (C5.out.blk K3.out (fun e => by have e' : D = p := e; have := HDP.out; omega))
                obtain ⟨st, hst⟩ : ∃ z, strOf s = z := ⟨_, rfl⟩
                obtain ⟨s0, hs0⟩ : ∃ z, strOf r0 = z := ⟨_, rfl⟩
                rw [hst] at HW5 ⊢
                rw [hs0] at cr
                subst hjn
                clear hst hs0 hr0 hW5 hsn hne hjr w1 w2
                go_upto_region 24 with fail
                rw [← HW5.out]
                clear cr fr HW5 c10
                go_wp2_with (refine wpList_store_rowC rfl 56 (.tmp 5) (.tmp 89) rfl w.heap.size (stC 0) rfl rfl 56 _ X5.out (by kernel_rfl) rfl (stC_one _) ?_; intro w9 h9 hc; have X9 := Lib.hid h9; have C9 := Lib.hid hc; clear h9 hc)
                have K9 := C9.out.blk K5.out (fun e => by have e' : D = w.heap.size := e; have := HDW.out; omega)
                have SA : SlAt w9 p (stS x k) (.slice none 0 0) [] := S5.out.set X5.out (by decide) (by decide) (by decide) C9.out
                have CD : Chg (fun k => k = D) w9 (w9.putObj D (.deferred none)) := Chg.of_grown (B := fun k => k = D) (grownBy_putObj' w9 D (.deferred none)) (fun k hk => by cases hk; rfl)
                refine ⟨by simp, .inl ⟨_, _, rfl, run_takeDeferred K9, ?_⟩⟩
                refine ⟨_, results_tmp_row rfl _ _ w.heap.size 56 _ (0, 0) _ rfl ((World.putObj_heap_other (by have := HDW.out; omega)).trans X9.out) Tryz.underlying56 rfl (by kernel_rfl), ?_⟩
                exact ⟨(jn : Int) + 1, .slice none 0 0, [], by rw [SE.out]; rfl, fun h => HPK.out.symm, SA.chg CD (fun e => by have e' : p = D := e; have := HDP.out; omega) (fun k hk => by cases hk) (fun i dv hi => by simp at hi), newer_chg (newer_chg (C3.out.trans C5.out) (Nat.le_refl _) C9.out) (Nat.le_of_lt HDW.out) CD⟩
          case stop =>
            rintro D pre X hD hS h hK
            exact h.elim
end Go.Proofs.YtabfmhlhdebcpaaGreatDoor
namespace Go.Proofs.YtabfmhlhdebcpaaGreatDoor
open Go.RowKit Fw
set_option linter.unusedVariables false
set_option linter.unusedSimpArgs false
set_option maxRecDepth 20000 in
theorem cCode_at (c : Nat) (w : World) (h : c = 0 ∨ c = 262 ∨ c = 263) : Calls Tryz.prog 102 #[.agg (stC c)] w fun e w' => e = .returned (.int .u16 (c : Int)) ∧ Below w.heap.size w w' := by
  rcases h with rfl | rfl | rfl
  · change Calls Tryz.prog 102 #[.agg #[.int .u8 0, .int .u8 0, .bool false, .bool false]] w fun e w' => e = .returned (.int .u16 0) ∧ Below w.heap.size w w'
    go_enter Tryz.func102, Tryz.ntmps102
    go_wp2
    go_ret
    exact ⟨rfl, gr_alloc _ _⟩
  · change Calls Tryz.prog 102 #[.agg #[.int .u8 1, .int .u8 6, .bool false, .bool false]] w fun e w' => e = .returned (.int .u16 262) ∧ Below w.heap.size w w'
    go_enter Tryz.func102, Tryz.ntmps102
    go_wp2
    go_ret
    exact ⟨rfl, gr_alloc _ _⟩
  · change Calls Tryz.prog 102 #[.agg #[.int .u8 1, .int .u8 7, .bool false, .bool false]] w fun e w' => e = .returned (.int .u16 263) ∧ Below w.heap.size w w'
    go_enter Tryz.func102, Tryz.ntmps102
    go_wp2
    go_ret
    exact ⟨rfl, gr_alloc _ _⟩
set_option maxRecDepth 20000 in
theorem cIndex_at (g : Nat) (v : Int) (b : Bool) (w : World) (hg : w.cell? ⟨g, 0, none⟩ = some (.int .u16 0)) (hb : (v == 0) = b) :
    Calls Tryz.prog 117 #[.slice (some ⟨g, 0, none⟩) 1 1, .int .u16 v] w fun e w' => e = .returned (.int .i64 (if b then 0 else -1)) ∧ w' = w := by
  cases b
  · go_enter Tryz.func117, Tryz.ntmps117
    go_wp2
    go_loopw [8] (fun i wr => ∃ k : Nat, k ≤ 1 ∧ i = .int .i64 k ∧ w = wr) (fun i _ => 1 - (intOf i).toNat)
    case atStart => exact ⟨0, by omega, rfl, rfl⟩
    case round =>
      obtain ⟨k, hk, rfl, rfl⟩ := hrel
      by_cases hlt : k < 1
      · obtain rfl : k = 0 := by omega
        go_wp2
        go_roundw
        case rel => exact ⟨1, by omega, by go_num, trivial⟩
        case measure => simp [intOf]
      · obtain rfl : k = 1 := by omega
        go_wp2
        go_ret
        exact ⟨rfl, rfl⟩
  · go_enter Tryz.func117, Tryz.ntmps117
    go_wp2
    go_loopw [8] (fun i wr => i = .int .i64 0 ∧ w = wr) (fun i _ => 0)
    case atStart => exact ⟨rfl, rfl⟩
    case round =>
      obtain ⟨rfl, rfl⟩ := hrel
      go_wp2
      go_ret
      exact ⟨rfl, rfl⟩
theorem cContains_at (g : Nat) (v : Int) (b : Bool) (w : World) (hg : w.cell? ⟨g, 0, none⟩ = some (.int .u16 0)) (hb : (v == 0) = b) :
    Calls Tryz.prog 101 #[.slice (some ⟨g, 0, none⟩) 1 1, .int .u16 v] w fun e w' => e = .returned (.bool b) ∧ w' = w := by
  have IX := Lib.hid (cIndex_at g v b w hg hb)
  clear hg hb
  cases b
  all_goals
    go_enter Tryz.func101, Tryz.ntmps101
    go_wp2_with (go_at_call 117; go_loud (refine IX.out.mono ?_; rintro e w1 ⟨rfl, rfl⟩))
    go_ret
    exact ⟨rfl, rfl⟩
theorem cIs_at (c : Nat) (g : Nat) (b : Bool) (w : World) (h : c = 0 ∨ c = 262 ∨ c = 263) (hg : w.cell? ⟨g, 0, none⟩ = some (.int .u16 0)) (hb : (c == 0) = b) :
    Calls Tryz.prog 84 #[.agg (stC c), .slice (some ⟨g, 0, none⟩) 1 1] w fun e w' => e = .returned (.bool b) ∧ Below w.heap.size w w' := by
  have CD := Lib.hid (fun w => cCode_at c w h)
  have CT := Lib.hid (fun w h => cContains_at g (c : Int) b w h (by
    rw [← hb]
    by_cases e : c = 0
    · subst e; rfl
    · rw [beq_false_of_ne e, beq_false_of_ne (show (c : Int) ≠ 0 by omega)]))
  obtain ⟨W, hW⟩ : ∃ W, W = w.alloc (.cells (stC c) 56) := ⟨_, rfl⟩
  have D := Lib.hid (show Below w.heap.size w W by rw [hW]; exact gr_alloc w _)
  have X := Lib.hid (show W.heap[w.heap.size]? = some (.cells (stC c) 56 (0, 0)) by rw [hW]; exact heap_alloc_new w _)
  have G := Lib.hid hg
  have HW := Lib.hid hW
  have SZ := Lib.hid (stC_size c)
  obtain ⟨C, hC⟩ : ∃ z, (c : Int) = z := ⟨_, rfl⟩
  obtain ⟨cs, hcs⟩ : ∃ z, stC c = z := ⟨_, rfl⟩
  rw [hcs] at CD X HW SZ ⊢
  rw [hC] at CD CT
  clear hC hW hb h hcs hg
  go_enter Tryz.func84, Tryz.ntmps84
  go_upto_region 1 with fail
  rw [← HW.out]
  go_wp2_with (first
    | (refine wpList_load_row rfl 56 (.tmp 2) rfl w.heap.size rfl 56 cs (0, 0) _ X.out Tryz.underlying56 rfl (by rw [SZ.out]; kernel_rfl) ?_)
    | (go_at_call 102; go_loud (refine (CD.out _).mono ?_; rintro e w1 ⟨rfl, hb⟩; have D1 := Lib.hid (gr_tr D.out hb); clear hb))
    | (go_at_call 101; go_loud (refine (CT.out _ (below_cellE D1.out G.out)).mono ?_; rintro e w2 ⟨rfl, rfl⟩)))
  go_ret
  exact ⟨rfl, D1.out⟩
theorem Good_at (c : Nat) (b : Bool) (w : World) (h : c = 0 ∨ c = 262 ∨ c = 263) (hb : (c == 0) = b) :
    Calls Tryz.prog 65 #[.agg (stC c)] w fun e w' => e = .returned (.bool b) ∧ Below w.heap.size w w' := by
  have IS := Lib.hid (fun g w hg => cIs_at c g b w h hg hb)
  obtain ⟨W, hW⟩ : ∃ W, W = w.alloc (.cells (stC c) 56) := ⟨_, rfl⟩
  have D := Lib.hid (show Below w.heap.size w W by rw [hW]; exact gr_alloc w _)
  have X := Lib.hid (show W.heap[w.heap.size]? = some (.cells (stC c) 56 (0, 0)) by rw [hW]; exact heap_alloc_new w _)
  have HW := Lib.hid hW
  have SZ := Lib.hid (stC_size c)
  obtain ⟨cs, hcs⟩ : ∃ z, stC c = z := ⟨_, rfl⟩
  rw [hcs] at IS X HW SZ ⊢
  clear hW hb h hcs
  go_enter Tryz.func65, Tryz.ntmps65
  go_upto_region 1 with fail
  rw [← HW.out]
  go_wp2_with (first
    | (refine wpList_load_row rfl 56 (.tmp 1) rfl w.heap.size rfl 56 cs (0, 0) _ X.out Tryz.underlying56 rfl (by rw [SZ.out]; kernel_rfl) ?_)
    | (go_at_call 84; go_loud (refine (IS.out _ _ ((cell_of_row _ _ 0 _ _ _ (heap_alloc_new W _)).trans rfl)).mono ?_; rintro e w1 ⟨rfl, hb⟩; have D1 := Lib.hid (gr_tr (gr_tr D.out (gr_alloc W _)) hb); clear hb)))
  go_ret
  exact ⟨rfl, D1.out⟩
theorem stE_is (x : St) (k : Int) : stE x k = 0 ∨ stE x k = 262 ∨ stE x k = 263 := by
  unfold stE; split
  · split
    · exact .inr (.inr rfl)
    · exact .inl rfl
  · exact .inr (.inl rfl)
set_option maxRecDepth 20000 in
theorem keep_at (p : Nat) (x : St) (lv : Value) (dvs : List Value) (k : Int) (w : World) (h : SlAt w p x lv dvs) :
    Calls Tryz.prog 46 #[.pointer (some ⟨p, 0, none⟩), .int .i64 k] w (ActPost p (stE x k) (stS x k) w) := by
  have STO := Lib.hid (fun w h => store_at p x lv dvs k w h)
  obtain ⟨W, hW⟩ : ∃ W, W = w.alloc (.cells #[.int .u8 0, .int .u8 0, .bool false, .bool false] 56) := ⟨_, rfl⟩
  have D := Lib.hid (show Below w.heap.size w W by rw [hW]; exact gr_alloc w _)
  have X := Lib.hid (show W.heap[w.heap.size]? = some (.cells #[.int .u8 0, .int .u8 0, .bool false, .bool false] 56 (0, 0)) by rw [hW]; exact heap_alloc_new w _)
  have HW := Lib.hid hW
  have S1 := Lib.hid (h.below D.out)
  have PQ := Lib.hid (show p < w.heap.size from (Array.getElem?_eq_some_iff.1 h.blk).1)
  have SZ := Lib.hid (stC_size (stE x k))
  have SO := Lib.hid (stC_one (stE x k))
  unfold StorePost at STO
  unfold ActPost
  obtain ⟨cs, hcs⟩ : ∃ z, stC (stE x k) = z := ⟨_, rfl⟩
  rw [hcs] at STO SZ SO ⊢
  clear hW h hcs
  go_enter Tryz.func46, Tryz.ntmps46
  go_upto_region 1 with fail
  rw [← HW.out]
  go_wp2_with (first
    | (go_at_call 64; go_loud (refine (STO.out _ S1.out).mono ?_; rintro e w1 ⟨r, lv', dvs', rfl, hr, hs, hc⟩; have S2 := Lib.hid hs; have C2 := Lib.hid ((Chg.of_below (B := fun k => k = p) D.out).trans hc); have X2 := Lib.hid (hc.blk X.out (fun e => by have e' : w.heap.size = p := e; have := PQ.out; omega)); clear hr hs hc))
    | (refine wpList_store_new rfl 56 (.tmp 6) (.tmp 12) rfl cs 56 _ rfl rfl (by rw [SZ.out]; kernel_rfl) (by rw [SZ.out]; rfl) SO.out ?_; intro w3 h3 hb; have Y3 := Lib.hid h3; have B3 := Lib.hid hb; clear h3 hb)
    | (refine wpList_load_row rfl 56 (.tmp 6) rfl w1.heap.size rfl 56 cs (0, 0) _ Y3.out Tryz.underlying56 rfl (by rw [SZ.out]; kernel_rfl) ?_)
    | (refine wpList_store_rowC rfl 56 (.tmp 4) (.tmp 13) rfl w.heap.size cs rfl rfl 56 _ (blk_below X2.out B3.out) (by rw [SZ.out]; kernel_rfl) (by rw [SZ.out]; rfl) SO.out ?_; intro w9 h9 hc; have X9 := Lib.hid h9; have C9 := Lib.hid hc; clear h9 hc))
  exact bodyPost_ret (results_cell_row rfl _ _ w.heap.size 56 _ (0, 0) _ rfl X9.out Tryz.underlying56 rfl (by rw [SZ.out]; kernel_rfl)) rfl ⟨_, _, rfl, (S2.out.below B3.out).set (blk_below X2.out B3.out) (by decide) (by decide) (by decide) C9.out, newer_chg (C2.out.trans (Chg.of_below B3.out)) (Nat.le_refl _) C9.out⟩
set_option maxRecDepth 20000 in
set_option maxHeartbeats 3200000 in
theorem prepare_at (p : Nat) (x : St) (lv : Value) (dvs : List Value) (k : Int) (w : World) (h : SlAt w p x lv dvs) :
    Calls Tryz.prog 47 #[.pointer (some ⟨p, 0, none⟩), .int .i64 k] w (ActPost p (stE x k) (cmS x k 1) w) := by
  have STO := Lib.hid (fun w h => store_at p x lv dvs k w h)
  obtain ⟨W, hW⟩ : ∃ W, W = w.alloc (.cells #[.int .u8 0, .int .u8 0, .bool false, .bool false] 56) := ⟨_, rfl⟩
  have D := Lib.hid (show Below w.heap.size w W by rw [hW]; exact gr_alloc w _)
  have X := Lib.hid (show W.heap[w.heap.size]? = some (.cells #[.int .u8 0, .int .u8 0, .bool false, .bool false] 56 (0, 0)) by rw [hW]; exact heap_alloc_new w _)
  have HW := Lib.hid hW
  have S1 := Lib.hid (h.below D.out)
  have PQ := Lib.hid (show p < w.heap.size from (Array.getElem?_eq_some_iff.1 h.blk).1)
  have SZ := Lib.hid (stC_size (stE x k))
  have SO := Lib.hid (stC_one (stE x k))
  have OKX := Lib.hid (h.ok.cm k 1)
  obtain ⟨b, hb⟩ : ∃ b, (stE x k == 0) = b := ⟨_, rfl⟩
  have GD := Lib.hid (fun w => Good_at (stE x k) b w (stE_is x k) hb)
  have HB := Lib.hid hb
  unfold StorePost at STO
  unfold ActPost
  obtain ⟨cs, hcs⟩ : ∃ z, stC (stE x k) = z := ⟨_, rfl⟩
  rw [hcs] at STO SZ SO GD ⊢
  clear hW h hcs hb
  cases b
  · have HS := Lib.hid (show cmS x k 1 = stS x k by
      have h0 : ¬ ((1 : Int) = 1 ∧ stE x k = 0) := fun h => by have := HB.out; rw [h.2] at this; cases this
      unfold cmS
      rw [if_neg (by decide), if_neg (by decide), if_neg (by decide), if_neg h0])
    rw [HS.out]
    go_enter Tryz.func47, Tryz.ntmps47
    go_upto_region 1 with fail
    rw [← HW.out]
    go_wp2_with (first
      | (go_at_call 64; go_loud (refine (STO.out _ S1.out).mono ?_; rintro e w1 ⟨r, lv', dvs', rfl, hr, hs, hc⟩; have HR := Lib.hid hr; have S2 := Lib.hid hs; have C2 := Lib.hid ((Chg.of_below (B := fun k => k = p) D.out).trans hc); have X2 := Lib.hid (hc.blk X.out (fun e => by have e' : w.heap.size = p := e; have := PQ.out; omega)); clear hr hs hc))
      | (refine wpList_store_new rfl 56 (.tmp 6) (.tmp 12) rfl cs 56 _ rfl rfl (by rw [SZ.out]; kernel_rfl) (by rw [SZ.out]; rfl) SO.out ?_; intro w3 h3 hb; have Y3 := Lib.hid h3; have B3 := Lib.hid hb; clear h3 hb)
      | (refine wpList_load_row rfl 56 (.tmp 6) rfl w1.heap.size rfl 56 cs (0, 0) _ Y3.out Tryz.underlying56 rfl (by rw [SZ.out]; kernel_rfl) ?_)
      | (go_at_call 65; go_loud (refine (GD.out _).mono ?_; rintro e w4 ⟨rfl, hb⟩; have Y4 := Lib.hid (blk_below Y3.out hb); have B4 := Lib.hid (gr_tr B3.out hb); clear hb))
      | (refine wpList_load_row rfl 56 (.tmp 6) rfl w1.heap.size rfl 56 cs (0, 0) _ Y4.out Tryz.underlying56 rfl (by rw [SZ.out]; kernel_rfl) ?_)
      | (refine wpList_store_rowC rfl 56 (.tmp 4) (.tmp 20) rfl w.heap.size cs rfl rfl 56 _ (blk_below X2.out B4.out) (by rw [SZ.out]; kernel_rfl) (by rw [SZ.out]; rfl) SO.out ?_; intro w9 h9 hc; have X9 := Lib.hid h9; have C9 := Lib.hid hc; clear h9 hc))
    exact bodyPost_ret (results_cell_row rfl _ _ w.heap.size 56 _ (0, 0) _ rfl X9.out Tryz.underlying56 rfl (by rw [SZ.out]; kernel_rfl)) rfl ⟨_, _, rfl, (S2.out.below B4.out).set (blk_below X2.out B4.out) (by decide) (by decide) (by decide) C9.out, newer_chg (C2.out.trans (Chg.of_below B4.out)) (Nat.le_refl _) C9.out⟩
  · have H0 := Lib.hid (show stE x k = 0 from eq_of_beq HB.out)
    have HS := Lib.hid (show cmS x k 1 = { stS x k with s := { (stS x k).s with nxt := pick x k } } by
      unfold cmS
      rw [if_neg (by decide), if_neg (by decide), if_neg (by decide), if_pos ⟨rfl, H0.out⟩])
    rw [HS.out]
    rw [HS.out] at OKX
    go_enter Tryz.func47, Tryz.ntmps47
    go_upto_region 1 with fail
    rw [← HW.out]
    go_upto_region 3 with (first
      | (go_at_call 64; go_loud (refine (STO.out _ S1.out).mono ?_; rintro e w1 ⟨r, lv', dvs', rfl, hr, hs, hc⟩; have HR := Lib.hid hr; have S2 := Lib.hid hs; have C2 := Lib.hid ((Chg.of_below (B := fun k => k = p) D.out).trans hc); have X2 := Lib.hid (hc.blk X.out (fun e => by have e' : w.heap.size = p := e; have := PQ.out; omega)); clear hr hs hc))
      | (refine wpList_store_new rfl 56 (.tmp 6) (.tmp 12) rfl cs 56 _ rfl rfl (by rw [SZ.out]; kernel_rfl) (by rw [SZ.out]; rfl) SO.out ?_; intro w3 h3 hb; have Y3 := Lib.hid h3; have B3 := Lib.hid hb; clear h3 hb)
      | (refine wpList_load_row rfl 56 (.tmp 6) rfl w1.heap.size rfl 56 cs (0, 0) _ Y3.out Tryz.underlying56 rfl (by rw [SZ.out]; kernel_rfl) ?_)
      | (go_at_call 65; go_loud (refine (GD.out _).mono ?_; rintro e w4 ⟨rfl, hb⟩; have Y4 := Lib.hid (blk_below Y3.out hb); have B4 := Lib.hid (gr_tr B3.out hb); clear hb)))
    have S4 := Lib.hid (S2.out.below B4.out)
    have c5 := S4.out.cnxt
    have f5 := S4.out.fz 5
    obtain ⟨W5, hW5⟩ : ∃ V, V = w4.setCell ⟨p, 5, none⟩ (.int .i64 r) := ⟨_, rfl⟩
    have S5 := Lib.hid (show SlAt W5 p { stS x k with s := { (stS x k).s with nxt := pick x k } } lv' dvs' by
      rw [hW5, HR.out H0.out]; exact S4.out.setnxt _ OKX.out)
    have C5 := Lib.hid (show Chg (fun k => k = p) w4 W5 by rw [hW5]; exact Chg.setCell (B := fun k => k = p) (p := ⟨p, 5, none⟩) w4 rfl _)
    have PL := Lib.hid (show p < w1.heap.size from (Array.getElem?_eq_some_iff.1 S2.out.blk).1)
    have Y5 := Lib.hid (C5.out.blk Y4.out (fun e => by have e' : w1.heap.size = p := e; have := PL.out; omega))
    have X5 := Lib.hid (C5.out.blk (blk_below X2.out B4.out) (fun e => by have e' : w.heap.size = p := e; have := PQ.out; omega))
    have HW5 := Lib.hid hW5
    clear hW5
    go_upto_region 4 with fail
    rw [← HW5.out]
    clear c5 f5
    go_wp2_with (first
      | (refine wpList_load_row rfl 56 (.tmp 6) rfl w1.heap.size rfl 56 cs (0, 0) _ Y5.out Tryz.underlying56 rfl (by rw [SZ.out]; kernel_rfl) ?_)
      | (refine wpList_store_rowC rfl 56 (.tmp 4) (.tmp 20) rfl w.heap.size cs rfl rfl 56 _ X5.out (by rw [SZ.out]; kernel_rfl) (by rw [SZ.out]; rfl) SO.out ?_; intro w9 h9 hc; have X9 := Lib.hid h9; have C9 := Lib.hid hc; clear h9 hc))
    exact bodyPost_ret (results_cell_row rfl _ _ w.heap.size 56 _ (0, 0) _ rfl X9.out Tryz.underlying56 rfl (by rw [SZ.out]; kernel_rfl)) rfl ⟨rfl, ⟨_, _, S5.out.set X5.out (by decide) (by decide) (by decide) C9.out⟩, newer_chg ((C2.out.trans (Chg.of_below B4.out)).trans C5.out) (Nat.le_refl _) C9.out⟩
end Go.Proofs.YtabfmhlhdebcpaaGreatDoor
namespace Go.Proofs.YtabfmhlhdebcpaaGreatDoor
open Go.RowKit Fw
set_option linter.unusedVariables false
set_option linter.unusedSimpArgs false
theorem run_insert_int {P : Program} {mty kt et : TypeId} (hm : P.underlying mty = some (.map kt et)) (hk : P.underlying kt = some (.int .i64)) (w : World) (r : Nat) (es : Array MapEntry) (clock : Nat) (key : Int) (val : Value) (hb : w.heap[r]? = some (.map es clock))
    (hf : Instr.findNow (.int .i64) (.int .i64 key) es.toList 0 = some none) :
    (Instr.mapUpdate mty (.map (some r)) (.int .i64 key) val).run P w = .ok () { w with heap := w.heap.setIfInBounds r (.map (es.push { key := .int .i64 key, val := val, born := clock }) (clock + 1)) } := by
  have hc : (Instr.checkKey false 10000 kt (.int .i64 key)).run P w = .ok () w := MapKept.run_checkKey (k := .int .i64 key) hk (by simp [MapKept.IsKey]) false 9999
  simp [Instr.mapUpdate, run_underlying hm, MapKept.run_getObj_map hb, hc, MapKept.run_findKey hk hf, MapKept.run_setObj_map _ hb, Result.andThen]
theorem run_lookup_int {P : Program} {mty kt et : TypeId} (hm : P.underlying mty = some (.map kt et)) (hk : P.underlying kt = some (.int .i64)) (w : World) (r : Nat) (es : Array MapEntry) (clock : Nat) (key : Int) (i : Nat) (val : Value) (hb : w.heap[r]? = some (.map es clock))
    (hf : Instr.findNow (.int .i64) (.int .i64 key) es.toList 0 = some (some (i, val))) :
    (Instr.lookup mty (.map (some r)) (.int .i64 key) true).run P w = .ok (.tuple #[val, .bool true]) w := by
  have hc : ∀ e, (Instr.checkKey e 10000 kt (.int .i64 key)).run P w = .ok () w := fun e => MapKept.run_checkKey (k := .int .i64 key) hk (by simp [MapKept.IsKey]) e 9999
  simp [Instr.lookup, run_underlying hm, MapKept.run_getObj_map hb, hc, MapKept.run_findKey hk hf, Result.andThen]
theorem run_lookup_int_no {P : Program} {mty kt et : TypeId} (hm : P.underlying mty = some (.map kt et)) (hk : P.underlying kt = some (.int .i64)) (w : World) (r : Nat) (es : Array MapEntry) (clock : Nat) (key : Int) (z : Value) (hb : w.heap[r]? = some (.map es clock))
    (hz : (zeroValue et).run P w = .ok z w) (hf : Instr.findNow (.int .i64) (.int .i64 key) es.toList 0 = some none) :
    (Instr.lookup mty (.map (some r)) (.int .i64 key) true).run P w = .ok (.tuple #[z, .bool false]) w := by
  have hc : ∀ e, (Instr.checkKey e 10000 kt (.int .i64 key)).run P w = .ok () w := fun e => MapKept.run_checkKey (k := .int .i64 key) hk (by simp [MapKept.IsKey]) e 9999
  simp [Instr.lookup, run_underlying hm, MapKept.run_getObj_map hb, hc, MapKept.run_findKey hk hf, hz, Result.andThen]
theorem blk_putObj {w : World} {g : Nat} {o o' : Obj} (h : w.heap[g]? = some o) : (w.putObj g o').heap[g]? = some o' := World.putObj_heap_same (Array.getElem?_eq_some_iff.1 h).1
theorem below_putObj {base : Nat} {w w' : World} {g : Nat} (h : Below base w w') (hg : base ≤ g) (o : Obj) : Below base w (w'.putObj g o) :=
  ⟨h.os, h.tape, h.output, by simpa [World.putObj] using h.size, fun k hk => (World.putObj_heap_other (by omega)).trans (h.block k hk)⟩
set_option maxRecDepth 20000 in
/-- The map of actions: how it is made. -/
theorem map_made (W : World) (g : Nat) (hg : W.heap.size = g) : ∃ M0 M1 M2 M3 M4 : World, (Instr.makeMap 105 none).run Tryz.prog W = .ok (.map (some g)) M0 ∧
    (Instr.mapUpdate 105 (.map (some g)) (.int .i64 0) (.func (.func 46) #[] #[])).run Tryz.prog M0 = .ok () M1 ∧
    (Instr.mapUpdate 105 (.map (some g)) (.int .i64 1) (.func (.func 47) #[] #[])).run Tryz.prog M1 = .ok () M2 ∧
    (Instr.mapUpdate 105 (.map (some g)) (.int .i64 2) (.func (.func 48) #[] #[])).run Tryz.prog M2 = .ok () M3 ∧
    (Instr.mapUpdate 105 (.map (some g)) (.int .i64 3) (.func (.func 49) #[] #[])).run Tryz.prog M3 = .ok () M4 ∧
    M4.heap[g]? = some (.map #[({ key := .int .i64 0, val := .func (.func 46) #[] #[], born := 0 } : MapEntry), ({ key := .int .i64 1, val := .func (.func 47) #[] #[], born := 1 } : MapEntry), ({ key := .int .i64 2, val := .func (.func 48) #[] #[], born := 2 } : MapEntry), ({ key := .int .i64 3, val := .func (.func 49) #[] #[], born := 3 } : MapEntry)] 4) ∧ Below W.heap.size W M4 := by
  subst hg
  have h0 : (W.alloc (.map #[] 0)).heap[W.heap.size]? = some (.map #[] 0) := heap_alloc_new W _
  have h1 := blk_putObj (o' := .map #[({ key := .int .i64 0, val := .func (.func 46) #[] #[], born := 0 } : MapEntry)] 1) h0
  have h2 := blk_putObj (o' := .map #[({ key := .int .i64 0, val := .func (.func 46) #[] #[], born := 0 } : MapEntry), ({ key := .int .i64 1, val := .func (.func 47) #[] #[], born := 1 } : MapEntry)] 2) h1
  have h3 := blk_putObj (o' := .map #[({ key := .int .i64 0, val := .func (.func 46) #[] #[], born := 0 } : MapEntry), ({ key := .int .i64 1, val := .func (.func 47) #[] #[], born := 1 } : MapEntry), ({ key := .int .i64 2, val := .func (.func 48) #[] #[], born := 2 } : MapEntry)] 3) h2
  have h4 := blk_putObj (o' := .map #[({ key := .int .i64 0, val := .func (.func 46) #[] #[], born := 0 } : MapEntry), ({ key := .int .i64 1, val := .func (.func 47) #[] #[], born := 1 } : MapEntry), ({ key := .int .i64 2, val := .func (.func 48) #[] #[], born := 2 } : MapEntry), ({ key := .int .i64 3, val := .func (.func 49) #[] #[], born := 3 } : MapEntry)] 4) h3
  refine ⟨_, _, _, _, _, run_makeMap (P := Tryz.prog) _ _, run_insert_int Tryz.underlying105 Tryz.underlying3 _ _ #[] 0 0 _ h0 rfl, run_insert_int Tryz.underlying105 Tryz.underlying3 _ _ #[({ key := .int .i64 0, val := .func (.func 46) #[] #[], born := 0 } : MapEntry)] 1 1 _ h1 rfl, run_insert_int Tryz.underlying105 Tryz.underlying3 _ _ #[({ key := .int .i64 0, val := .func (.func 46) #[] #[], born := 0 } : MapEntry), ({ key := .int .i64 1, val := .func (.func 47) #[] #[], born := 1 } : MapEntry)] 2 2 _ h2 rfl, run_insert_int Tryz.underlying105 Tryz.underlying3 _ _ #[({ key := .int .i64 0, val := .func (.func 46) #[] #[], born := 0 } : MapEntry), ({ key := .int .i64 1, val := .func (.func 47) #[] #[], born := 1 } : MapEntry), ({ key := .int .i64 2, val := .func (.func 48) #[] #[], born := 2 } : MapEntry)] 3 3 _ h3 rfl, h4, ?_⟩
  exact below_putObj (below_putObj (below_putObj (below_putObj (gr_alloc W _) (Nat.le_refl _) _) (Nat.le_refl _) _) (Nat.le_refl _) _) (Nat.le_refl _) _
theorem map_get (W : World) (g : Nat) (a : Int) (i : Nat) (v : Value) (h : W.heap[g]? = some (.map #[({ key := .int .i64 0, val := .func (.func 46) #[] #[], born := 0 } : MapEntry), ({ key := .int .i64 1, val := .func (.func 47) #[] #[], born := 1 } : MapEntry), ({ key := .int .i64 2, val := .func (.func 48) #[] #[], born := 2 } : MapEntry), ({ key := .int .i64 3, val := .func (.func 49) #[] #[], born := 3 } : MapEntry)] 4)) (hf : Instr.findNow (.int .i64) (.int .i64 a) [({ key := .int .i64 0, val := .func (.func 46) #[] #[], born := 0 } : MapEntry), ({ key := .int .i64 1, val := .func (.func 47) #[] #[], born := 1 } : MapEntry), ({ key := .int .i64 2, val := .func (.func 48) #[] #[], born := 2 } : MapEntry), ({ key := .int .i64 3, val := .func (.func 49) #[] #[], born := 3 } : MapEntry)] 0 = some (some (i, v))) :
    (Instr.lookup 105 (.map (some g)) (.int .i64 a) true).run Tryz.prog W = .ok (.tuple #[v, .bool true]) W :=
  run_lookup_int Tryz.underlying105 Tryz.underlying3 W g _ 4 a i v h hf
theorem map_no (W : World) (g : Nat) (a : Int) (h : W.heap[g]? = some (.map #[({ key := .int .i64 0, val := .func (.func 46) #[] #[], born := 0 } : MapEntry), ({ key := .int .i64 1, val := .func (.func 47) #[] #[], born := 1 } : MapEntry), ({ key := .int .i64 2, val := .func (.func 48) #[] #[], born := 2 } : MapEntry), ({ key := .int .i64 3, val := .func (.func 49) #[] #[], born := 3 } : MapEntry)] 4)) (ha : a < 0 ∨ 3 < a) :
    (Instr.lookup 105 (.map (some g)) (.int .i64 a) true).run Tryz.prog W = .ok (.tuple #[.nilFunc, .bool false]) W := by
  refine run_lookup_int_no Tryz.underlying105 Tryz.underlying3 W g _ 4 a .nilFunc h (by kernel_rfl) ?_
  have e0 : (a == 0) = false := by simp; omega
  have e1 : (a == 1) = false := by simp; omega
  have e2 : (a == 2) = false := by simp; omega
  have e3 : (a == 3) = false := by simp; omega
  simp [Instr.findNow, Instr.sameNow, e0, e1, e2, e3]
theorem cmE_0 (x : St) (k : Int) : cmE x k 0 = stE x k := by unfold cmE; rw [if_neg (by decide), if_neg (by decide)]
theorem cmS_0 (x : St) (k : Int) : cmS x k 0 = stS x k := by unfold cmS; rw [if_neg (by decide), if_neg (by decide), if_neg (by decide), if_neg (fun h => absurd h.1 (by decide))]
theorem cmE_1 (x : St) (k : Int) : cmE x k 1 = stE x k := by unfold cmE; rw [if_neg (by decide), if_neg (by decide)]
theorem cmE_2 (x : St) (k : Int) : cmE x k 2 = if fl x k then 0 else 262 := by unfold cmE; rw [if_neg (by decide), if_pos (by decide)]
theorem cmS_2 (x : St) (k : Int) : cmS x k 2 = if fl x k then { x with s := { x.s with nxt := k } } else x := by unfold cmS; rw [if_neg (by decide), if_pos rfl]
theorem cmE_3 (x : St) (k : Int) : cmE x k 3 = if fl x k then 0 else 262 := by unfold cmE; rw [if_neg (by decide), if_pos (by decide)]
theorem cmS_3 (x : St) (k : Int) : cmS x k 3 = if fl x k then { x with s := { x.s with act := k, nxt := 0 } } else x := by unfold cmS; rw [if_neg (by decide), if_neg (by decide), if_pos rfl]
set_option maxRecDepth 20000 in
set_option maxHeartbeats 3200000 in
theorem Commit_at (p : Nat) (x : St) (lv : Value) (dvs : List Value) (k a : Int) (w : World) (h : SlAt w p x lv dvs) :
    Calls Tryz.prog 22 #[.pointer (some ⟨p, 0, none⟩), .int .i64 k, .int .i64 a] w (ActPost p (cmE x k a) (cmS x k a) w) := by
  have NON := Lib.hid (fun w h => none_at p x lv dvs w h)
  obtain ⟨W, hW⟩ : ∃ W, W = w.alloc (.cells #[.int .u8 0, .int .u8 0, .bool false, .bool false] 56) := ⟨_, rfl⟩
  have D := Lib.hid (show Below w.heap.size w W by rw [hW]; exact gr_alloc w _)
  have X := Lib.hid (show W.heap[w.heap.size]? = some (.cells #[.int .u8 0, .int .u8 0, .bool false, .bool false] 56 (0, 0)) by rw [hW]; exact heap_alloc_new w _)
  have HW := Lib.hid hW
  have S1 := Lib.hid (h.below D.out)
  have PQ := Lib.hid (show p < w.heap.size from (Array.getElem?_eq_some_iff.1 h.blk).1)
  obtain ⟨g, hg⟩ : ∃ g, W.heap.size = g := ⟨_, rfl⟩
  obtain ⟨M0, M1, M2, M3, M4, m0, m1, m2, m3, m4, hm4, hb4⟩ := map_made W g hg
  have S4 := Lib.hid (S1.out.below hb4)
  have D4 := Lib.hid (gr_tr D.out hb4)
  have X4 := Lib.hid (blk_below X.out hb4)
  have HM4 := Lib.hid hm4
  clear hW h hg hb4 hm4
  by_cases hno : a < 0 ∨ 3 < a
  · have hl := map_no M4 g a HM4.out hno
    have HE := Lib.hid (show cmE x k a = 2 by unfold cmE; rw [if_pos hno])
    have HS := Lib.hid (show cmS x k a = x by unfold cmS; rw [if_pos hno])
    unfold ActPost
    rw [HE.out, HS.out]
    clear hno
    (go_enter Tryz.func22, Tryz.ntmps22; go_upto_region 1 with fail; rw [← HW.out])
    go_wp2_with (first
      | (go_at_call 40; go_loud (refine (NON.out _ S1.out).mono ?_; rintro e w1 ⟨rfl, rfl⟩))
      | (go_at_call 41; go_loud (refine (status_at 2 _ Kn.k2).mono ?_; rintro e w1 ⟨rfl, hb⟩; have X5 := Lib.hid (blk_below X4.out hb); have S5 := Lib.hid (S4.out.below hb); have C5 := Lib.hid (Chg.of_below (B := fun k => k = p) (gr_tr D4.out hb)); clear hb))
      | (refine wpList_store_rowC rfl 56 (.tmp 6) (.tmp 21) rfl w.heap.size (stC 2) rfl rfl 56 _ X5.out (by kernel_rfl) rfl (stC_one _) ?_; intro w9 h9 hc; have X9 := Lib.hid h9; have C9 := Lib.hid hc; clear h9 hc))
    exact bodyPost_ret (results_cell_row rfl _ _ w.heap.size 56 _ (0, 0) _ rfl X9.out Tryz.underlying56 rfl (by kernel_rfl)) rfl ⟨lv, dvs, rfl, S5.out.set X5.out (by decide) (by decide) (by decide) C9.out, newer_chg C5.out (Nat.le_refl _) C9.out⟩
  · have ha : a = 0 ∨ a = 1 ∨ a = 2 ∨ a = 3 := by omega
    clear hno
    rcases ha with rfl | rfl | rfl | rfl
    · have hl := map_get M4 g 0 0 _ HM4.out rfl
      have A0 := Lib.hid (keep_at p x lv dvs k)
      rw [← cmE_0, ← cmS_0] at A0
      have SZ := Lib.hid (stC_size (cmE x k 0))
      have SO := Lib.hid (stC_one (cmE x k 0))
      unfold ActPost at A0 ⊢
      obtain ⟨cs, hcs⟩ : ∃ z, stC (cmE x k 0) = z := ⟨_, rfl⟩
      rw [hcs] at A0 SZ SO ⊢
      clear hcs
      (go_enter Tryz.func22, Tryz.ntmps22; go_upto_region 1 with fail; rw [← HW.out])
      go_wp2_with (first | (go_at_call 40; go_loud (refine (NON.out _ S1.out).mono ?_; rintro e w1 ⟨rfl, rfl⟩)) | (go_at_call 46; go_loud (refine (A0.out _ S4.out).mono ?_; rintro e w1 ⟨lv', dvs', rfl, hs, hc⟩; have S5 := Lib.hid hs; have C5 := Lib.hid ((Chg.of_below (B := fun k => k = p) D4.out).trans hc); have X5 := Lib.hid (hc.blk X4.out (fun e => by have e' : w.heap.size = p := e; have := PQ.out; omega)); clear hs hc)) | (refine wpList_store_rowC rfl 56 (.tmp 6) (.tmp 25) rfl w.heap.size cs rfl rfl 56 _ X5.out (by rw [SZ.out]; kernel_rfl) (by rw [SZ.out]; rfl) SO.out ?_; intro w9 h9 hc; have X9 := Lib.hid h9; have C9 := Lib.hid hc; clear h9 hc))
      (exact bodyPost_ret (results_cell_row rfl _ _ w.heap.size 56 _ (0, 0) _ rfl X9.out Tryz.underlying56 rfl (by rw [SZ.out]; kernel_rfl)) rfl ⟨_, _, rfl, S5.out.set X5.out (by decide) (by decide) (by decide) C9.out, newer_chg C5.out (Nat.le_refl _) C9.out⟩)
    · have hl := map_get M4 g 1 1 _ HM4.out rfl
      have A0 := Lib.hid (prepare_at p x lv dvs k)
      rw [← cmE_1] at A0
      have SZ := Lib.hid (stC_size (cmE x k 1))
      have SO := Lib.hid (stC_one (cmE x k 1))
      unfold ActPost at A0 ⊢
      obtain ⟨cs, hcs⟩ : ∃ z, stC (cmE x k 1) = z := ⟨_, rfl⟩
      rw [hcs] at A0 SZ SO ⊢
      clear hcs
      (go_enter Tryz.func22, Tryz.ntmps22; go_upto_region 1 with fail; rw [← HW.out])
      go_wp2_with (first | (go_at_call 40; go_loud (refine (NON.out _ S1.out).mono ?_; rintro e w1 ⟨rfl, rfl⟩)) | (go_at_call 47; go_loud (refine (A0.out _ S4.out).mono ?_; rintro e w1 ⟨lv', dvs', rfl, hs, hc⟩; have S5 := Lib.hid hs; have C5 := Lib.hid ((Chg.of_below (B := fun k => k = p) D4.out).trans hc); have X5 := Lib.hid (hc.blk X4.out (fun e => by have e' : w.heap.size = p := e; have := PQ.out; omega)); clear hs hc)) | (refine wpList_store_rowC rfl 56 (.tmp 6) (.tmp 25) rfl w.heap.size cs rfl rfl 56 _ X5.out (by rw [SZ.out]; kernel_rfl) (by rw [SZ.out]; rfl) SO.out ?_; intro w9 h9 hc; have X9 := Lib.hid h9; have C9 := Lib.hid hc; clear h9 hc))
      (exact bodyPost_ret (results_cell_row rfl _ _ w.heap.size 56 _ (0, 0) _ rfl X9.out Tryz.underlying56 rfl (by rw [SZ.out]; kernel_rfl)) rfl ⟨_, _, rfl, S5.out.set X5.out (by decide) (by decide) (by decide) C9.out, newer_chg C5.out (Nat.le_refl _) C9.out⟩)
    · have hl := map_get M4 g 2 2 _ HM4.out rfl
      have A0 := Lib.hid (choose_at p x lv dvs k)
      rw [← cmE_2, ← cmS_2] at A0
      have SZ := Lib.hid (stC_size (cmE x k 2))
      have SO := Lib.hid (stC_one (cmE x k 2))
      unfold ActPost at A0 ⊢
      obtain ⟨cs, hcs⟩ : ∃ z, stC (cmE x k 2) = z := ⟨_, rfl⟩
      rw [hcs] at A0 SZ SO ⊢
      clear hcs
      (go_enter Tryz.func22, Tryz.ntmps22; go_upto_region 1 with fail; rw [← HW.out])
      go_wp2_with (first | (go_at_call 40; go_loud (refine (NON.out _ S1.out).mono ?_; rintro e w1 ⟨rfl, rfl⟩)) | (go_at_call 48; go_loud (refine (A0.out _ S4.out).mono ?_; rintro e w1 ⟨lv', dvs', rfl, hs, hc⟩; have S5 := Lib.hid hs; have C5 := Lib.hid ((Chg.of_below (B := fun k => k = p) D4.out).trans hc); have X5 := Lib.hid (hc.blk X4.out (fun e => by have e' : w.heap.size = p := e; have := PQ.out; omega)); clear hs hc)) | (refine wpList_store_rowC rfl 56 (.tmp 6) (.tmp 25) rfl w.heap.size cs rfl rfl 56 _ X5.out (by rw [SZ.out]; kernel_rfl) (by rw [SZ.out]; rfl) SO.out ?_; intro w9 h9 hc; have X9 := Lib.hid h9; have C9 := Lib.hid hc; clear h9 hc))
      (exact bodyPost_ret (results_cell_row rfl _ _ w.heap.size 56 _ (0, 0) _ rfl X9.out Tryz.underlying56 rfl (by rw [SZ.out]; kernel_rfl)) rfl ⟨_, _, rfl, S5.out.set X5.out (by decide) (by decide) (by decide) C9.out, newer_chg C5.out (Nat.le_refl _) C9.out⟩)
    · have hl := map_get M4 g 3 3 _ HM4.out rfl
      have A0 := Lib.hid (activate_at p x lv dvs k)
      rw [← cmE_3, ← cmS_3] at A0
      have SZ := Lib.hid (stC_size (cmE x k 3))
      have SO := Lib.hid (stC_one (cmE x k 3))
      unfold ActPost at A0 ⊢
      obtain ⟨cs, hcs⟩ : ∃ z, stC (cmE x k 3) = z := ⟨_, rfl⟩
      rw [hcs] at A0 SZ SO ⊢
      clear hcs
      (go_enter Tryz.func22, Tryz.ntmps22; go_upto_region 1 with fail; rw [← HW.out])
      go_wp2_with (first | (go_at_call 40; go_loud (refine (NON.out _ S1.out).mono ?_; rintro e w1 ⟨rfl, rfl⟩)) | (go_at_call 49; go_loud (refine (A0.out _ S4.out).mono ?_; rintro e w1 ⟨lv', dvs', rfl, hs, hc⟩; have S5 := Lib.hid hs; have C5 := Lib.hid ((Chg.of_below (B := fun k => k = p) D4.out).trans hc); have X5 := Lib.hid (hc.blk X4.out (fun e => by have e' : w.heap.size = p := e; have := PQ.out; omega)); clear hs hc)) | (refine wpList_store_rowC rfl 56 (.tmp 6) (.tmp 25) rfl w.heap.size cs rfl rfl 56 _ X5.out (by rw [SZ.out]; kernel_rfl) (by rw [SZ.out]; rfl) SO.out ?_; intro w9 h9 hc; have X9 := Lib.hid h9; have C9 := Lib.hid hc; clear h9 hc))
      (exact bodyPost_ret (results_cell_row rfl _ _ w.heap.size 56 _ (0, 0) _ rfl X9.out Tryz.underlying56 rfl (by rw [SZ.out]; kernel_rfl)) rfl ⟨_, _, rfl, S5.out.set X5.out (by decide) (by decide) (by decide) C9.out, newer_chg C5.out (Nat.le_refl _) C9.out⟩)
end Go.Proofs.YtabfmhlhdebcpaaGreatDoor
namespace Go.Proofs.YtabfmhlhdebcpaaGreatDoor
open Go.RowKit Fw
set_option linter.unusedVariables false
set_option linter.unusedSimpArgs false
attribute [local go_sem] Oper.semAt_some
namespace Fw
def cmpI (a b : Int) : Int := if a < b then -1 else if b < a then 1 else 0
end Fw
theorem nan_at (a : Int) (w : World) : Calls Tryz.prog 63 #[.int .i64 a] w fun e w' => e = .returned (.bool false) ∧ w' = w := by
  have h : (a != a) = false := by simp
  go_enter Tryz.func63, Tryz.ntmps63
  go_wp2
  go_ret
  exact ⟨rfl, rfl⟩
theorem compare_at (a b c : Int) (w : World) (hc : cmpI a b = c) : Calls Tryz.prog 45 #[.int .i64 a, .int .i64 b] w fun e w' => e = .returned (.int .i64 c) ∧ w' = w := by
  by_cases h1 : a < b
  · obtain rfl : c = -1 := by rw [← hc]; unfold cmpI; rw [if_pos h1]
    clear hc
    go_enter Tryz.func45, Tryz.ntmps45
    go_wp2_with (go_at_call 63; go_loud (refine (nan_at _ _).mono ?_; rintro e w1 ⟨rfl, rfl⟩))
    go_ret
    exact ⟨rfl, rfl⟩
  · by_cases h2 : b < a
    · obtain rfl : c = 1 := by rw [← hc]; unfold cmpI; rw [if_neg h1, if_pos h2]
      clear hc
      go_enter Tryz.func45, Tryz.ntmps45
      go_wp2_with (go_at_call 63; go_loud (refine (nan_at _ _).mono ?_; rintro e w1 ⟨rfl, rfl⟩))
      go_ret
      exact ⟨rfl, rfl⟩
    · obtain rfl : c = 0 := by rw [← hc]; unfold cmpI; rw [if_neg h1, if_neg h2]
      clear hc
      go_enter Tryz.func45, Tryz.ntmps45
      go_wp2_with (go_at_call 63; go_loud (refine (nan_at _ _).mono ?_; rintro e w1 ⟨rfl, rfl⟩))
      go_ret
      exact ⟨rfl, rfl⟩
theorem closure_at (a b c : Int) (u v : Value) (w : World) (hc : cmpI a b = c) : Calls Tryz.prog 44 #[.agg #[.int .i64 a, u], .agg #[.int .i64 b, v]] w fun e w' => e = .returned (.int .i64 c) ∧ Below w.heap.size w w' := by
  have CM := Lib.hid (fun w => compare_at a b c w hc)
  obtain ⟨W, hW⟩ : ∃ W, W = (w.alloc (.cells #[.int .i64 a, u] 97)).alloc (.cells #[.int .i64 b, v] 97) := ⟨_, rfl⟩
  have D := Lib.hid (show Below w.heap.size w W by rw [hW]; exact gr_tr (gr_alloc w _) (gr_alloc _ _))
  have x0 : W.cell? ⟨w.heap.size, 0, none⟩ = some (.int .i64 a) := (cell_of_row _ _ 0 _ _ _ (show W.heap[w.heap.size]? = some (.cells #[.int .i64 a, u] 97 (0, 0)) by rw [hW]; exact blk_below (heap_alloc_new w _) (gr_alloc _ _))).trans rfl
  have x1 : W.cell? ⟨w.heap.size + 1, 0, none⟩ = some (.int .i64 b) := (cell_of_row _ _ 0 _ _ _ (show W.heap[w.heap.size + 1]? = some (.cells #[.int .i64 b, v] 97 (0, 0)) by rw [hW]; have h := heap_alloc_new (w.alloc (.cells #[.int .i64 a, u] 97)) (.cells #[.int .i64 b, v] 97); rw [World.size_alloc] at h; exact h)).trans rfl
  have HW := Lib.hid hW
  clear hW hc
  go_enter Tryz.func44, Tryz.ntmps44
  go_upto_region 1 with fail
  rw [← HW.out]
  go_wp2_with (go_at_call 45; go_loud (refine (CM.out _).mono ?_; rintro e w1 ⟨rfl, rfl⟩))
  go_ret
  exact ⟨rfl, D.out⟩
set_option maxRecDepth 20000 in
set_option maxHeartbeats 3200000 in
theorem search_at (sv : Value) (zs : List (Pc × Value)) (ps : List Pc) (A : Nat) (tv : Value) (w : World) (hv : SliceV w pcC sv zs) (hz : zs.map (·.1) = ps) (hs : Sep 0 ps) (hl : ps.length ≤ 1048576) (h1 : tv.oneCell' = true) :
    Calls Tryz.prog 61 #[sv, .agg #[.int .i64 (A : Int), tv], .func (.func 44) #[] #[]] w fun e w' => ∃ b, e = .returned (.tuple #[.int .i64 (pos A ps : Int), .bool b]) ∧ Below w.heap.size w w' := by
  have SV := Lib.hid hv; have HS := Lib.hid hs
  have hlen : zs.length = ps.length := by rw [← hz, List.length_map]
  obtain ⟨a, c, hsv, -⟩ := id hv
  subst hsv
  obtain ⟨n, hn⟩ : ∃ n, zs.length = n := ⟨_, rfl⟩
  have HN := Lib.hid hn
  have HP := Lib.hid (show ps.length = n by rw [← hlen, hn])
  have hn63 : n ≤ 1048576 := by rw [← hn, hlen]; exact hl
  rw [hn] at SV ⊢
  have GET := Lib.hid (show ∀ (i : Nat) (y : Pc × Value), zs[i]? = some y → ps[i]? = some y.1 from fun i y hy => by rw [← hz, List.getElem?_map, hy]; rfl)
  obtain ⟨W, hW⟩ : ∃ W, W = w.alloc (.cells #[.int .i64 (A : Int), tv] 97) := ⟨_, rfl⟩
  have D := Lib.hid (show Below w.heap.size w W by rw [hW]; exact gr_alloc w _)
  have X := Lib.hid (show W.heap[w.heap.size]? = some (.cells #[.int .i64 (A : Int), tv] 97 (0, 0)) by rw [hW]; exact heap_alloc_new w _)
  have HW := Lib.hid hW
  obtain ⟨PO, hPO⟩ : ∃ z, pos A ps = z := ⟨_, rfl⟩
  have HPO := Lib.hid hPO
  rw [hPO]
  clear hv hs hlen hn hl hW hz hPO
  go_enter Tryz.func61, Tryz.ntmps61
  go_upto_region 1 with fail
  rw [← HW.out]
  clear HW
  go_wp2
  go_loopw [9, 10] (fun i j wr => ∃ i' j' : Nat, i = .int .i64 i' ∧ j = .int .i64 j' ∧ i' ≤ j' ∧ j' ≤ n ∧ Hid (∀ t p, t < i' → ps[t]? = some p → p.at_ < A) ∧ Hid (∀ t p, j' ≤ t → ps[t]? = some p → A ≤ p.at_) ∧ Below w.heap.size w wr ∧ wr.heap[w.heap.size]? = some (.cells #[.int .i64 (A : Int), tv] 97 (0, 0))) (fun i j _ => (intOf j - intOf i).toNat)
  case atStart => exact ⟨0, n, rfl, rfl, by omega, Nat.le_refl _, Lib.hid (fun t p h => by omega), Lib.hid (fun t p h hp => by have := (List.getElem?_eq_some_iff.1 hp).1; have := HP.out; omega), D.out, X.out⟩
  case round =>
    obtain ⟨i, j, rfl, rfl, hij, hjn, LO, HI, hb, hx⟩ := hrel
    have DB := Lib.hid hb; have XB := Lib.hid hx
    clear hb hx
    by_cases hlt : i < j
    · obtain ⟨h, hh⟩ : ∃ h, (i + j) / 2 = h := ⟨_, rfl⟩
      have hmid : RowKit.wrap64 (uv ((BitVec.ofNat 64 i + BitVec.ofNat 64 j) >>> 1)) = (h : Int) := by
        have e1 : ((BitVec.ofNat 64 i + BitVec.ofNat 64 j) >>> 1).toNat = h := by
          rw [BitVec.toNat_ushiftRight, BitVec.toNat_add, BitVec.toNat_ofNat, BitVec.toNat_ofNat, Nat.shiftRight_eq_div_pow]
          omega
        unfold uv
        rw [e1]
        unfold RowKit.wrap64
        omega
      have hh1 : i ≤ h := by omega
      have hh2 : h < j := by omega
      have hhn : h < n := by omega
      obtain ⟨y, hy⟩ : ∃ y, zs[h]? = some y := ⟨_, List.getElem?_eq_getElem (by rw [HN.out]; exact hhn)⟩
      have HY := Lib.hid (GET.out h y hy)
      obtain ⟨gq, o, cq, he1, hr1⟩ := SliceV.rng pcC_len SV.out h y hy (by decide)
      injection he1 with he1 he1' he1''
      subst he1; subst he1''
      have R1 := Lib.hid (show wr.rangeAt gq (o + h * 2) [Value.int .i64 ((y.1.at_ : Nat) : Int), y.2] from rng_below hr1 DB.out)
      obtain ⟨cc, hcc⟩ : ∃ z, cmpI ((y.1.at_ : Nat) : Int) (A : Int) = z := ⟨_, rfl⟩
      have CLO := Lib.hid (fun u v w => closure_at ((y.1.at_ : Nat) : Int) (A : Int) cc u v w hcc)
      have HCC := Lib.hid hcc
      have hnh : decide (n ≤ h) = false := decide_eq_false (by omega)
      have hnh2 : ¬ (n ≤ h) := by omega
      have HH := Lib.hid hh
      clear hy hr1 he1' hcc hh
      go_upto_region 5 with fail
      rw [hmid]
      clear hmid
      refine wp_region_planW nowhere [(true, 0), (true, 1), (true, 2), (true, 3), (true, 4), (true, 5), (false, 6), (true, 7)] (by kernel_rfl) (by kernel_rfl) (by intro c a d v w h; cases d <;> exact h) ?_
      intro W1 K1 C1
      (refine wpS_firm rfl (fun K hK => ?_); simp only [Keep]; go_simp; refine hK _ ?_; clear hK K)
      (refine wpS_firm rfl (fun K hK => ?_); simp only [Keep]; go_simp; refine hK _ ?_; clear hK K)
      (refine wpS_firm rfl (fun K hK => ?_); simp only [Keep]; go_simp; refine hK _ ?_; clear hK K)
      (refine wpS_firm rfl (fun K hK => ?_); simp only [Keep]; go_simp; refine hK _ ?_; clear hK K)
      refine wpS_load_mid rfl rfl 97 (.tmp 27) rfl gq (o + h * 2) rfl [Value.int .i64 ((y.1.at_ : Nat) : Int), y.2] _ (fun x hx => Keep.rng hx R1.out id) Tryz.underlying97 rfl (by kernel_rfl) ?_
      refine wpS_load_rowM rfl rfl 97 (.tmp 4) rfl w.heap.size rfl 97 #[.int .i64 (A : Int), tv] (0, 0) _ (fun x hx => Keep.blkB hx XB.out id) Tryz.underlying97 rfl (by kernel_rfl) ?_
      refine wpS_chain rfl ?_
      go_wp2_with (go_at_call 44; go_loud (refine (CLO.out _ _ _).mono ?_; rintro e w3 ⟨rfl, hw⟩; have K3 := Lib.hid (K1.out.below hw); have D3 := Lib.hid (gr_tr (gr_tr DB.out C1.out) hw); have X3 := Lib.hid (blk_below (blk_below XB.out C1.out) hw); clear hw))
      refine ⟨K3.out, ?_⟩
      by_cases hc : cc < 0
      · have hlo : y.1.at_ < A := by
          have h1 := HCC.out
          unfold cmpI at h1
          split at h1
          · omega
          · split at h1 <;> omega
        have HLO := Lib.hid (show ∀ t p, t < h + 1 → ps[t]? = some p → p.at_ < A from fun t p ht hp => by
          rcases Nat.lt_or_ge t h with h1 | h1
          · have := Sep.lt HS.out h1 hp HY.out
            omega
          · have e : t = h := by omega
            subst e
            rw [HY.out] at hp
            cases hp
            exact hlo)
        (refine wpS_firm rfl (fun K hK => ?_); simp only [Keep]; go_simp; refine hK _ ?_; clear hK K)
        unfold wpS
        clear hnh hnh2
        go_wp2
        go_roundw
        case rel => exact ⟨h + 1, j, by go_num, rfl, by omega, by omega, HLO, HI, D3.out, X3.out⟩
        case measure => simp [intOf]; omega
      · have hhi : A ≤ y.1.at_ := by
          have h1 := HCC.out
          unfold cmpI at h1
          split at h1
          · omega
          · omega
        have HHI := Lib.hid (show ∀ t p, h ≤ t → ps[t]? = some p → A ≤ p.at_ from fun t p ht hp => by
          rcases Nat.eq_or_lt_of_le ht with h1 | h1
          · subst h1
            rw [HY.out] at hp
            cases hp
            exact hhi
          · have := Sep.lt HS.out h1 HY.out hp
            omega)
        (refine wpS_firm rfl (fun K hK => ?_); simp only [Keep]; go_simp; refine hK _ ?_; clear hK K)
        unfold wpS
        clear hnh hnh2
        go_wp2
        go_roundw
        case rel => exact ⟨i, h, rfl, rfl, by omega, by omega, LO, HHI, D3.out, X3.out⟩
        case measure => simp [intOf]; omega
    · obtain rfl : i = j := by omega
      have hE : PO = i := by rw [← HPO.out]; exact pos_is HS.out (by rw [HP.out]; exact hjn) LO.out (fun p hp => HI.out i p (Nat.le_refl _) hp)
      subst hE
      by_cases hlast : PO < n
      · obtain ⟨y, hy⟩ : ∃ y, zs[PO]? = some y := ⟨_, List.getElem?_eq_getElem (by rw [HN.out]; exact hlast)⟩
        obtain ⟨gq, o, cq, he1, hr1⟩ := SliceV.rng pcC_len SV.out PO y hy (by decide)
        injection he1 with he1 he1' he1''
        subst he1; subst he1''
        have R1 := Lib.hid (show wr.rangeAt gq (o + PO * 2) [Value.int .i64 ((y.1.at_ : Nat) : Int), y.2] from rng_below hr1 DB.out)
        obtain ⟨cc, hcc⟩ : ∃ z, cmpI ((y.1.at_ : Nat) : Int) (A : Int) = z := ⟨_, rfl⟩
        have CLO := Lib.hid (fun u v w => closure_at ((y.1.at_ : Nat) : Int) (A : Int) cc u v w hcc)
        have hnh : decide (n ≤ PO) = false := decide_eq_false (by omega)
        have hnh2 : ¬ (n ≤ PO) := by omega
        clear hy hr1 he1' hcc
        go_upto_region 8 with fail
        refine wp_region_planW nowhere [(true, 0), (true, 1), (true, 2), (true, 3), (true, 4), (true, 5), (true, 6), (true, 7), (true, 8), (true, 9), (true, 10), (false, 11), (true, 12), (true, 13), (true, 14), (true, 15)] (by kernel_rfl) (by kernel_rfl) (by intro c a d v w h; cases d <;> exact h) ?_
        intro W1 K1 C1
        (refine wpS_firm rfl (fun K hK => ?_); simp only [Keep]; go_simp; refine hK _ ?_; clear hK K)
        (refine wpS_firm rfl (fun K hK => ?_); simp only [Keep]; go_simp; refine hK _ ?_; clear hK K)
        (refine wpS_firm rfl (fun K hK => ?_); simp only [Keep]; go_simp; refine hK _ ?_; clear hK K)
        (refine wpS_firm rfl (fun K hK => ?_); simp only [Keep]; go_simp; refine hK _ ?_; clear hK K)
        (refine wpS_firm rfl (fun K hK => ?_); simp only [Keep]; go_simp; refine hK _ ?_; clear hK K)
        (refine wpS_firm rfl (fun K hK => ?_); simp only [Keep]; go_simp; refine hK _ ?_; clear hK K)
        (refine wpS_firm rfl (fun K hK => ?_); simp only [Keep]; go_simp; refine hK _ ?_; clear hK K)
        (refine wpS_firm rfl (fun K hK => ?_); simp only [Keep]; go_simp; refine hK _ ?_; clear hK K)
        (refine wpS_firm rfl (fun K hK => ?_); simp only [Keep]; go_simp; refine hK _ ?_; clear hK K)
        refine wpS_load_mid rfl rfl 97 (.tmp 43) rfl gq (o + PO * 2) rfl [Value.int .i64 ((y.1.at_ : Nat) : Int), y.2] _ (fun x hx => Keep.rng hx R1.out id) Tryz.underlying97 rfl (by kernel_rfl) ?_
        refine wpS_load_rowM rfl rfl 97 (.tmp 4) rfl w.heap.size rfl 97 #[.int .i64 (A : Int), tv] (0, 0) _ (fun x hx => Keep.blkB hx XB.out id) Tryz.underlying97 rfl (by kernel_rfl) ?_
        refine wpS_chain rfl ?_
        go_wp2_with (go_at_call 44; go_loud (refine (CLO.out _ _ _).mono ?_; rintro e w3 ⟨rfl, hw⟩; have K3 := Lib.hid (K1.out.below hw); have D3 := Lib.hid (gr_tr (gr_tr DB.out C1.out) hw); clear hw))
        refine ⟨K3.out, ?_⟩
        (refine wpS_firm rfl (fun K hK => ?_); simp only [Keep]; go_simp; refine hK _ ?_; clear hK K)
        (refine wpS_firm rfl (fun K hK => ?_); simp only [Keep]; go_simp; refine hK _ ?_; clear hK K)
        (refine wpS_firm rfl (fun K hK => ?_); simp only [Keep]; go_simp; refine hK _ ?_; clear hK K)
        (refine wpS_firm rfl (fun K hK => ?_); simp only [Keep]; go_simp; refine hK _ ?_; clear hK K)
        unfold wpS
        clear hnh hnh2
        go_wp2
        go_ret2
        exact ⟨_, rfl, D3.out⟩
      · have hnl : decide (PO < n) = false := decide_eq_false hlast
        have hnl2 : ¬ ((PO : Int) < (n : Int)) := by omega
        go_upto_region 8 with fail
        refine wp_region_planW nowhere [(true, 0), (true, 1), (true, 2), (true, 3), (true, 4), (true, 5), (true, 6), (true, 7), (true, 8), (true, 9), (true, 10), (false, 11), (true, 12), (true, 13), (true, 14), (true, 15)] (by kernel_rfl) (by kernel_rfl) (by intro c a d v w h; cases d <;> exact h) ?_
        intro W1 K1 C1
        repeat (refine wpS_firm rfl (fun K hK => ?_); simp only [Keep]; go_simp; refine hK _ ?_; clear hK K)
        refine wpS_chain rfl ?_
        go_wp2
        refine ⟨K1.out, ?_⟩
        repeat (refine wpS_firm rfl (fun K hK => ?_); simp only [Keep]; go_simp; refine hK _ ?_; clear hK K)
        unfold wpS
        go_wp2
        go_ret2
        exact ⟨_, rfl, gr_tr DB.out C1.out⟩
end Go.Proofs.YtabfmhlhdebcpaaGreatDoor
namespace Go.Proofs.YtabfmhlhdebcpaaGreatDoor
open Go.RowKit Go.Lib Fw
set_option linter.unusedVariables false
set_option linter.unusedSimpArgs false
attribute [local go_sem] Oper.semAt_some
/-- 'copy(d, s)' at elements of k cells: all is read before anything is written. -/
theorem run_copy_k {P : Program} (w : World) (dT sT ty elem : TypeId) (k b o dLen dCap : Nat) (a : Addr) (sLen sCap : Nat) (cs : List Value)
    (hu : P.underlying dT = some (.slice elem)) (hs : (P.info? elem).map (·.size) = some k) (hn : cs.length = Nat.min sLen dLen * k)
    (hsrc : ∀ j v, cs[j]? = some v → w.cell? (a.add j) = some v) (hc : ∀ j, j < cs.length → (w.cell? ⟨b, o + j, none⟩).isSome = true) (hf : ∀ j, j < cs.length → w.frozen? ⟨b, o + j, none⟩ = false) (h1 : ∀ v ∈ cs, v.oneCell' = true) :
    (Builtin.copy_ #[dT, sT] ty #[.slice (some ⟨b, o, none⟩) dLen dCap, .slice (some a) sLen sCap]).run P w = .ok (goInt (Nat.min sLen dLen)) (w.setCells b o cs) := by
  have hl := run_loadCells_list (P := P) w a cs hsrc
  have hst := run_storeCells_cells (P := P) b o cs 0 w (by simpa using hc) (by simpa using hf) h1
  cases hq : P.info? elem with
  | none => simp [hq] at hs
  | some i =>
    have hi : i.size = k := by simpa [hq] using hs
    simp [Builtin.copy_, run_underlying hu, Builtin.lenOf, Builtin.firstCells, sizeOf, typeInfo, hq, hi, ← hn, hl, hst]
theorem wpList_copy_runI {P : Program} (w : World) {ops : Array Oper} {rest : List Oper} {o : Oper} {a : Act} {Q : Exit → Act → World → Prop} (hgd : o.guard = none) (d s : Operand) (t t' : TypeId)
    (ho : o.op = .call { callee := .builtin .copy, args := #[d, s], argTypes := #[t, t'] }) (v u : Value) (hd : a.eval d = v) (hs : a.eval s = u) {v' : Value} {w' : World}
    (hr : (Builtin.copy_ #[t, t'] o.type #[v, u]).run P w = .ok v' w') (h : wpList P ops Q rest (a.put o.dst v') w') : wpList P ops Q (o :: rest) a w := by
  refine wpList_plain hgd fun K hK => ?_
  unfold Oper.wp execOp
  simp only [ho, resolve, invoke, builtin, Sem.run_bind, Sem.run_pure, Result.andThen_ok, List.map_toArray, List.map_cons, List.map_nil, hd, hs, hr]
  exact hK _ _ h
theorem wpList_append_runI {P : Program} (w : World) {ops : Array Oper} {rest : List Oper} {o : Oper} {a : Act} {Q : Exit → Act → World → Prop} (hgd : o.guard = none) (d s : Operand) (t t' : TypeId)
    (ho : o.op = .call { callee := .builtin .append, args := #[d, s], argTypes := #[t, t'] }) (v u : Value) (hd : a.eval d = v) (hs : a.eval s = u) {v' : Value} {w' : World}
    (hr : (Builtin.append_ #[t, t'] o.type #[v, u]).run P w = .ok v' w') (h : wpList P ops Q rest (a.put o.dst v') w') : wpList P ops Q (o :: rest) a w := by
  refine wpList_plain hgd fun K hK => ?_
  unfold Oper.wp execOp
  simp only [ho, resolve, invoke, builtin, Sem.run_bind, Sem.run_pure, Result.andThen_ok, List.map_toArray, List.map_cons, List.map_nil, hd, hs, hr]
  exact hK _ _ h
theorem pc_el (t : TypeId) (h : t = 72) : Tryz.prog.elem t = 97 := by subst h; kernel_rfl
theorem pc_under : Tryz.prog.underlying 72 = some (.slice (Tryz.prog.elem 72)) := by rw [pc_el _ rfl]; exact Tryz.underlying72
theorem pc_size (w : World) : (sizeOf (Tryz.prog.elem 72)).run Tryz.prog w = .ok 2 w := by
  rw [pc_el _ rfl]
  obtain ⟨i0, hi0, hz0, hz1, hz2⟩ := info_parts (show (Tryz.prog.info? 97).map (fun i => (i.zero, i.size, i.bytes)) = some (some (.agg #[.int .i64 0, .slice none 0 0]), 2, 32) by kernel_rfl)
  simp [sizeOf, typeInfo, hi0, hz1]
theorem pc_info : (Tryz.prog.info? 97).map (·.size) = some 2 := by kernel_rfl
set_option maxRecDepth 20000 in
set_option maxHeartbeats 3200000 in
/-- At the end. -/
theorem Insert_end (base : Nat) (v : Value) (n vb : Nat) (xs news : List Value) (w : World) (hown : w.ownsRow base 97 2 v n xs) (hn : n ≤ 1048576) (hnl : news.length = 2) (hvb : w.heap[vb]? = some (.cells news.toArray 97 (0, 0))) (h1 : ∀ u ∈ news, u.oneCell' = true) (hb : base ≤ w.heap.size) :
    Calls Tryz.prog 62 #[v, .int .i64 (n : Int), .slice (some ⟨vb, 0, none⟩) 1 1] w fun e w' => ∃ u, e = .returned u ∧ w'.ownsRow base 97 2 u (n + 1) (xs ++ news) ∧ Chg (fun k => v.ownBlock = some k) w w' := by
  obtain ⟨a, c, rfl⟩ := own_shape hown
  have O := Lib.hid hown; have VB := Lib.hid hvb; have H1 := Lib.hid h1; have HNL := Lib.hid hnl; have HB := Lib.hid hb
  obtain ⟨u1, hu1⟩ : ∃ u1, ∀ w', (Instr.slice 72 (.slice a n c) (some (.int .i64 (n : Int))) none none).run Tryz.prog w' = .ok u1 w' := by
    refine ⟨.slice (if c = n then a else a.map (·.add (n * 2))) (n - n) (c - n), fun w' => ?_⟩
    have h := run_slice_l w' 72 a n c pc_under .i64 n (by omega) (by omega)
    rw [pc_size] at h
    refine h.trans ?_
    simp [Result.andThen, sliced]
  have hnn : ((n : Int) == (n : Int)) = true := by simp
  clear hown hvb h1 hnl hb
  go_enter Tryz.func62, Tryz.ntmps62
  go_wp2_with (at_builtin; go_loud (refine app_law_at pcsOk rfl _ _ rfl base (.slice a n c) n xs rfl O.out (some ⟨vb, 0, none⟩) 1 1 news rfl (by simp) (by omega) (.inr ⟨vb, 0, rfl, fun i hi => (by rw [Nat.zero_add, cell_of_row _ _ i _ _ _ VB.out, List.getElem?_toArray])⟩) (by rw [HNL.out]) H1.out (by omega) (by omega) HB.out ?_; intro v' w1 ho hg _; have O1 := Lib.hid ho; have C1 := Lib.hid (Chg.of_grown (B := fun k => (Value.slice a n c).ownBlock = some k) hg (fun k hk => hk)); clear ho hg))
  go_ret
  exact ⟨_, rfl, O1.out, C1.out⟩
theorem shape_of {w : World} {b : Nat} {cs : Array Value} {t : TypeId} {fr : Nat × Nat} (h : w.heap[b]? = some (.cells cs t fr)) : w.shape? b = some (t, cs.size) := by
  unfold World.shape?; rw [h]
set_option maxRecDepth 20000 in
set_option maxHeartbeats 3200000 in
/-- In place: there is room. -/
theorem Insert_room (base g n c i vb : Nat) (xs news : List Value) (w : World) (hown : w.ownsRow base 97 2 (.slice (some ⟨g, 0, none⟩) n c) n xs) (hi : i < n) (hn : n ≤ 1048576) (hroom : n + 1 ≤ c) (hnl : news.length = 2) (hvb : w.heap[vb]? = some (.cells news.toArray 97 (0, 0))) (hne : vb ≠ g) (h1 : ∀ u ∈ news, u.oneCell' = true) (h2 : ∀ u ∈ xs, u.oneCell' = true) :
    Calls Tryz.prog 62 #[.slice (some ⟨g, 0, none⟩) n c, .int .i64 (i : Int), .slice (some ⟨vb, 0, none⟩) 1 1] w fun e w' => ∃ u, e = .returned u ∧ w'.ownsRow base 97 2 u (n + 1) (xs.take (i * 2) ++ (news ++ xs.drop (i * 2))) ∧ Chg (fun k => k = g) w w' := by
  obtain ⟨hlen, hh⟩ := hown
  rcases hh with ⟨h0, _⟩ | ⟨g', cap, cur, hv, hbase, hheap, hnc, hcm, hcs, htake⟩
  · cases h0
  injection hv with hv1 hv2 hv3
  injection hv1 with hv1
  injection hv1 with hv1 hv4
  subst hv1; subst hv3
  have hmax : c ≤ 9223372036854775807 := hcm
  obtain ⟨dr, hdr⟩ : ∃ d, xs.drop (i * 2) = d := ⟨_, rfl⟩
  have hdl : dr.length = (n - i) * 2 := by rw [← hdr, List.length_drop, hlen]; omega
  have hxs : ∀ j, j < n * 2 → xs[j]? = cur[j]? := fun j hj => by
    rw [← htake, List.getElem?_take_of_lt hj, Array.getElem?_toList]
  have hdg : ∀ (j : Nat) (v : Value), dr[j]? = some v → cur[i * 2 + j]? = some v := fun j v hj => by
    have hj2 := (List.getElem?_eq_some_iff.1 hj).1
    rw [← hdr, List.getElem?_drop] at hj
    rw [← hxs (i * 2 + j) (by omega), hj]
  have hcur : ∀ j, j < c * 2 → (cur[j]?).isSome = true := fun j hj => by rw [Array.getElem?_eq_getElem (by rw [hcs]; exact hj)]; rfl
  have CP1 := Lib.hid (show ∀ (Wx : World), Wx.heap[g]? = some (.cells cur 97 (0, 0)) → ∀ ty dc sc, (Builtin.copy_ #[72, 72] ty #[.slice (some ⟨g, (i + 1) * 2, none⟩) (n + 1 - (i + 1)) dc, .slice (some ⟨g, i * 2, none⟩) (n + 1 - i) sc]).run Tryz.prog Wx = .ok (goInt (Nat.min (n + 1 - i) (n + 1 - (i + 1)))) (Wx.setCells g ((i + 1) * 2) dr) from fun Wx hx ty dc sc =>
    run_copy_k Wx _ _ ty 97 2 g ((i + 1) * 2) (n + 1 - (i + 1)) dc ⟨g, i * 2, none⟩ (n + 1 - i) sc dr Tryz.underlying72 pc_info (by rw [hdl]; congr 1; simp only [Nat.min_def]; split <;> omega)
      (fun j v hj => by rw [Addr.add_lit, cell_of_row _ _ _ _ _ _ hx]; exact hdg j v hj)
      (fun j hj => by rw [cell_of_row _ _ _ _ _ _ hx]; exact hcur _ (by rw [hdl] at hj; omega)) (fun j hj => frozen_of_row _ _ _ _ _ hx) (fun v hv => h2 v (by rw [← hdr] at hv; exact List.mem_of_mem_drop hv)))
  have hsz1 : (putA cur ((i + 1) * 2) dr).size = c * 2 := by rw [putA_size, hcs]
  obtain ⟨cur1, hcur1⟩ : ∃ z, putA cur ((i + 1) * 2) dr = z := ⟨_, rfl⟩
  rw [hcur1] at hsz1
  have hm1 : Nat.min 1 (n + 1 - i) = 1 := by simp only [Nat.min_def]; split <;> omega
  have CP2 := Lib.hid (show ∀ (Wx : World), Wx.heap[g]? = some (.cells cur1 97 (0, 0)) → Wx.heap[vb]? = some (.cells news.toArray 97 (0, 0)) → ∀ ty dc, (Builtin.copy_ #[72, 72] ty #[.slice (some ⟨g, i * 2, none⟩) (n + 1 - i) dc, .slice (some ⟨vb, 0, none⟩) 1 1]).run Tryz.prog Wx = .ok (goInt (Nat.min 1 (n + 1 - i))) (Wx.setCells g (i * 2) news) from fun Wx hx hy ty dc =>
    run_copy_k Wx _ _ ty 97 2 g (i * 2) (n + 1 - i) dc ⟨vb, 0, none⟩ 1 1 news Tryz.underlying72 pc_info (by rw [hnl, hm1])
      (fun j v hj => by rw [Addr.add_lit, Nat.zero_add, cell_of_row _ _ _ _ _ _ hy, List.getElem?_toArray]; exact hj)
      (fun j hj => by rw [cell_of_row _ _ _ _ _ _ hx, Array.getElem?_eq_getElem (by rw [hsz1]; rw [hnl] at hj; omega)]; rfl) (fun j hj => frozen_of_row _ _ _ _ _ hx) h1)
  have P1 := Lib.hid (show ∀ (Wx : World), Wx.heap[g]? = some (.cells cur 97 (0, 0)) → (Wx.setCells g ((i + 1) * 2) dr).heap[g]? = some (.cells cur1 97 (0, 0)) from fun Wx hx => by rw [← hcur1]; exact putA_heap _ _ _ _ hx)
  have htk : (putA cur1 (i * 2) news).toList.take ((n + 1) * 2) = xs.take (i * 2) ++ (news ++ dr) := by
    apply List.ext_getElem?
    intro j
    by_cases hj : j < (n + 1) * 2
    · rw [List.getElem?_take_of_lt hj, Array.getElem?_toList, putA_get _ _ _ _ (by rw [hsz1, hnl]; omega)]
      by_cases ha : i * 2 ≤ j ∧ j < i * 2 + news.length
      · rw [if_pos ha, List.getElem?_append_right (by rw [List.length_take, hlen]; omega), List.length_take, hlen, List.getElem?_append_left (by omega)]
        congr 1; omega
      · rw [if_neg ha, ← hcur1, putA_get _ _ _ _ (by rw [hcs, hdl]; omega)]
        by_cases hb : (i + 1) * 2 ≤ j ∧ j < (i + 1) * 2 + dr.length
        · rw [if_pos hb, List.getElem?_append_right (by rw [List.length_take, hlen]; omega), List.length_take, hlen, List.getElem?_append_right (by omega)]
          congr 1; omega
        · rw [if_neg hb, List.getElem?_append_left (by rw [List.length_take, hlen]; omega), List.getElem?_take_of_lt (by omega), hxs j (by omega)]
    · rw [List.getElem?_eq_none (by rw [List.length_take]; omega), List.getElem?_eq_none (by rw [List.length_append, List.length_append, List.length_take, hlen, hdl, hnl]; omega)]
  have FIN := Lib.hid (show ∀ (Wx : World), Wx.heap[g]? = some (.cells cur1 97 (0, 0)) → (Wx.setCells g (i * 2) news).ownsRow base 97 2 (.slice (some ⟨g, 0, none⟩) (n + 1) c) (n + 1) (xs.take (i * 2) ++ (news ++ dr)) from fun Wx hx =>
    ⟨by rw [List.length_append, List.length_append, List.length_take, hlen, hdl, hnl]; omega, .inr ⟨g, c, _, rfl, hbase, putA_heap _ _ _ _ hx, by omega, hcm, by rw [putA_size, hsz1], htk⟩⟩)
  have hov : ∀ lb cb, (callFunc 80 #[.slice (some ⟨vb, 0, none⟩) 1 1, .slice (some ⟨g, (i + 1) * 2, none⟩) lb cb]).run Tryz.prog w = .ok (.value (.bool false)) w := fun lb cb => by
    rw [run_callFunc_extern Tryz.func80 (by kernel_rfl) (by kernel_rfl) (by kernel_rfl) (e := Extern.SlicesOverlaps.overlaps #[72, 72] #[4]) (by kernel_rfl),
      Lib.run_overlaps_apart w 72 4 97 Tryz.underlying72 2 (fun w => by have := pc_size w; rw [pc_el _ rfl] at this; exact this) ⟨vb, 0, none⟩ ⟨g, (i + 1) * 2, none⟩ 1 1 lb cb hne 97 97 _ _ (shape_of hvb) (shape_of hheap) (by rw [hcs]; omega) (frozen_of_row _ _ _ _ _ hvb) (frozen_of_row _ _ _ _ _ hvb)]
    rfl
  have HV := Lib.hid hheap; have VB := Lib.hid hvb
  have sl1 : ∃ u1, ∀ w', (Instr.slice 72 (.slice (some ⟨g, 0, none⟩) n c) (some (.int .i64 (i : Int))) none none).run Tryz.prog w' = .ok u1 w' := by
    refine ⟨.slice (if c = i then some ⟨g, 0, none⟩ else (some (⟨g, 0, none⟩ : Addr)).map (·.add (i * 2))) (n - i) (c - i), fun w' => ?_⟩
    have h := run_slice_l w' 72 (some ⟨g, 0, none⟩) n c pc_under .i64 i (by omega) (by omega)
    rw [pc_size] at h
    refine h.trans ?_
    simp [Result.andThen, sliced]
  obtain ⟨u1, hu1⟩ := sl1
  have r2 : ∀ w', (Instr.slice 72 (.slice (some ⟨g, 0, none⟩) n c) none (some (.int .i64 ((n : Int) + 1))) none).run Tryz.prog w' = .ok (.slice (some ⟨g, 0, none⟩) (n + 1) c) w' := fun w' => by
    rw [run_slice_h w' 72 (some ⟨g, 0, none⟩) n c pc_under .i64 ((n : Int) + 1) (by omega) (by omega), pc_size]
    simp [Result.andThen, sliced, Addr.add]
  have r3 : ∀ w', (Instr.slice 72 (.slice (some ⟨g, 0, none⟩) (n + 1) c) (some (.int .i64 ((i : Int) + 1))) none none).run Tryz.prog w' = .ok (.slice (some ⟨g, (i + 1) * 2, none⟩) (n + 1 - (i + 1)) (c - (i + 1))) w' := fun w' => by
    rw [run_slice_l w' 72 (some ⟨g, 0, none⟩) (n + 1) c pc_under .i64 (i + 1) (by omega) (by omega), pc_size]
    simp [Result.andThen, sliced, Addr.add, show ¬ c = i + 1 by omega]
  have r4 : ∀ w', (Instr.slice 72 (.slice (some ⟨g, 0, none⟩) (n + 1) c) (some (.int .i64 (i : Int))) none none).run Tryz.prog w' = .ok (.slice (some ⟨g, i * 2, none⟩) (n + 1 - i) (c - i)) w' := fun w' => by
    rw [run_slice_l w' 72 (some ⟨g, 0, none⟩) (n + 1) c pc_under .i64 i (by omega) (by omega), pc_size]
    simp [Result.andThen, sliced, Addr.add, show ¬ c = i by omega]
    intro h; exact h.symm
  have hin : ((i : Int) == (n : Int)) = false := by simp; omega
  have hcg : ¬ ((c : Int) < (n : Int) + 1) := by omega
  have VNE := Lib.hid hne
  have hi1 : (i : Int) ≤ 1048576 := by omega
  rw [hdr]
  clear hlen htake hm1 hcs hheap hnc hcm hbase hv2 hv4 hdl hxs hdg hcur hsz1 htk hcur1 hvb h1 h2 hnl hdr hne
  (go_enter Tryz.func62, Tryz.ntmps62)
  go_upto_region 15 with (simp only [hov])
  have hwi : IntKind.i64.wrap ((i : Int) + 1) = (i : Int) + 1 := by rw [IntKind.wrap_i64]; omega
  refine wp_region_planW (fun k => k = g) [(true, 0), (true, 1), (true, 2), (true, 3), (true, 4), (true, 5), (true, 6), (true, 7), (false, 8)] (by kernel_rfl) (by kernel_rfl) (by intro c a d v w h; cases d <;> exact h) ?_
  intro W1 K1 C1
  (refine wpS_firm rfl (fun K hK => ?_); simp only [Keep]; go_simp; refine hK _ ?_; clear hK K)
  (refine wpS_firm rfl (fun K hK => ?_); simp only [Keep]; go_simp; refine hK _ ?_; clear hK K)
  (refine wpS_firm rfl (fun K hK => ?_); simp only [Keep]; go_simp; refine hK _ ?_; clear hK K)
  (refine wpS_firm rfl (fun K hK => ?_); simp only [Keep]; go_simp; refine hK _ ?_; clear hK K)
  (refine wpS_firm rfl (fun K hK => ?_); simp only [Keep]; go_simp; refine hK _ ?_; clear hK K)
  (refine wpS_firm rfl (fun K hK => ?_); simp only [Keep]; go_simp; refine hK _ ?_; clear hK K)
  (refine wpS_firm rfl (fun K hK => ?_); simp only [Keep]; go_simp; refine hK _ ?_; clear hK K)
  (refine wpS_firm rfl (fun K hK => ?_); simp only [Keep]; go_simp; refine hK _ ?_; clear hK K)
  have H1 := blk_below HV.out C1.out
  have V1 := Lib.hid (blk_below VB.out C1.out)
  refine wpS_chain rfl ?_
  refine wpList_copy_runI W1 rfl (.tmp 73) (.tmp 76) 72 72 rfl (.slice (some ⟨g, (i + 1) * 2, none⟩) (n + 1 - (i + 1)) (c - (i + 1))) (.slice (some ⟨g, i * 2, none⟩) (n + 1 - i) (c - i)) (by simp [Act.eval, Act.put]) (by simp [Act.eval, Act.put]) (CP1.out W1 H1 3 (c - (i + 1)) (c - i)) ?_
  have Q1 := Lib.hid (putA_chg dr ((i + 1) * 2) W1 (g := g))
  have G1 := Lib.hid (P1.out W1 H1)
  obtain ⟨W2, hW2⟩ : ∃ z, z = W1.setCells g ((i + 1) * 2) dr := ⟨_, rfl⟩
  rw [← hW2] at Q1 G1 ⊢
  have K2 := Lib.hid (K1.out.chgK Q1.out (fun k hk => .inl hk))
  have V2 := Lib.hid (Q1.out.blk V1.out (fun e => VNE.out e))
  clear hW2 H1
  go_wp2
  refine ⟨K2.out, ?_⟩
  unfold wpS
  have hc2 := CP2.out W2 G1.out V2.out 3 (c - i)
  go_wp2
  go_ret
  exact ⟨_, rfl, FIN.out W2 G1.out, ((Chg.of_below C1.out).trans Q1.out).trans (putA_chg news (i * 2) W2)⟩
set_option maxRecDepth 20000 in
set_option maxHeartbeats 3200000 in
/-- A new row: there is no room. -/
theorem Insert_grow (base g n c i vb : Nat) (xs news : List Value) (w : World) (hown : w.ownsRow base 97 2 (.slice (some ⟨g, 0, none⟩) n c) n xs) (hi : i < n) (hn : n ≤ 1048576) (hroom : c < n + 1) (hnl : news.length = 2) (hvb : w.heap[vb]? = some (.cells news.toArray 97 (0, 0))) (h1 : ∀ u ∈ news, u.oneCell' = true) (h2 : ∀ u ∈ xs, u.oneCell' = true) (hbs : base ≤ w.heap.size) :
    Calls Tryz.prog 62 #[.slice (some ⟨g, 0, none⟩) n c, .int .i64 (i : Int), .slice (some ⟨vb, 0, none⟩) 1 1] w fun e w' => ∃ u, e = .returned u ∧ w'.ownsRow base 97 2 u (n + 1) (xs.take (i * 2) ++ (news ++ xs.drop (i * 2))) ∧ Chg (fun k => k = g) w w' := by
  obtain ⟨hlen, hh⟩ := hown
  rcases hh with ⟨h0, _⟩ | ⟨g', cap, cur, hv, hbase, hheap, hnc, hcm, hcs, htake⟩
  · cases h0
  injection hv with hv1 hv2 hv3
  injection hv1 with hv1
  injection hv1 with hv1 hv4
  subst hv1; subst hv3
  have hgl : g < w.heap.size := (Array.getElem?_eq_some_iff.1 hheap).1
  have hvl : vb < w.heap.size := (Array.getElem?_eq_some_iff.1 hvb).1
  obtain ⟨dr, hdr⟩ : ∃ d, xs.drop (i * 2) = d := ⟨_, rfl⟩
  have hdl : dr.length = (n - i) * 2 := by rw [← hdr, List.length_drop, hlen]; omega
  have hxs : ∀ j, j < n * 2 → xs[j]? = cur[j]? := fun j hj => by
    rw [← htake, List.getElem?_take_of_lt hj, Array.getElem?_toList]
  have hdg : ∀ (j : Nat) (v : Value), dr[j]? = some v → cur[i * 2 + j]? = some v := fun j v hj => by
    have hj2 := (List.getElem?_eq_some_iff.1 hj).1
    rw [← hdr, List.getElem?_drop] at hj
    rw [← hxs (i * 2 + j) (by omega), hj]
  have htl : (xs.take (i * 2)).length = i * 2 := by rw [List.length_take, hlen]; omega
  obtain ⟨i0, hi0, hz0, hz1, hz2⟩ := info_parts (show (Tryz.prog.info? 97).map (fun i => (i.zero, i.size, i.bytes)) = some (some (.agg #[.int .i64 0, .slice none 0 0]), 2, 32) by kernel_rfl)
  have hold : (Builtin.firstCells i0.size i (.slice (some ⟨g, 0, none⟩) i c)).run Tryz.prog w.drew = .ok (xs.take (i * 2)).toArray w.drew := by
    rw [hz1]
    exact run_firstCells_some w.drew 2 i ⟨g, 0, none⟩ i c (xs.take (i * 2)) htl (fun j v hj => by
      rw [Addr.add_lit, Nat.zero_add]
      have hj2 := (List.getElem?_eq_some_iff.1 hj).1
      rw [htl] at hj2
      rw [List.getElem?_take_of_lt hj2, hxs j (by omega)] at hj
      exact (cell_of_row _ _ _ _ _ _ hheap).trans hj)
  have hkk : (n : Int) + 1 - (i : Int) = ((n + 1 - i : Nat) : Int) := by omega
  have hik : i + (n + 1 - i) = n + 1 := by omega
  obtain ⟨G, hG⟩ : ∃ G, G = grownCap w (n + 1) c 97 := ⟨_, rfl⟩
  obtain ⟨ROW, hROW⟩ : ∃ ROW : Array Value, ROW = (xs.take (i * 2)).toArray ++ Builtin.zeroCells #[.int .i64 0, .slice none 0 0] (n + 1 - i) ++ Builtin.zeroCells #[.int .i64 0, .slice none 0 0] (G - (n + 1)) := ⟨_, rfl⟩
  obtain ⟨W1, hW1⟩ : ∃ W1, W1 = w.drew.alloc (.cells ROW 97) := ⟨_, rfl⟩
  obtain ⟨N, hN⟩ : ∃ N, w.heap.size = N := ⟨_, rfl⟩
  have ha : (Builtin.append_ #[72, 3] 72 #[.slice (some ⟨g, 0, none⟩) i c, .int .i64 ((n : Int) + 1 - (i : Int))]).run Tryz.prog w = .ok (.slice (some ⟨N, 0, none⟩) (n + 1) G) W1 := by
    have h := Lib.run_append_grow_zeros w 72 3 72 97 i0 _ .i64 .i64 Tryz.underlying72 Tryz.underlying3 hi0 hz0 (some ⟨g, 0, none⟩) i c (xs.take (i * 2)) hold (n + 1 - i) (by omega) (by rw [hz1]; decide) (by omega) (by omega) (by rw [hz2]; omega) (by rw [hz2, hik]; exact growslice_fits hroom (by omega))
    rw [hik, ← hG] at h
    rw [hkk, h, hW1, hROW, hN]
    rfl
  have hGn : n + 1 ≤ G := by rw [hG]; exact grownCap_ge w _ _ _
  have hGm : G ≤ maxLen := by rw [hG]; exact grownCap_le_maxLen w (n + 1) c 97 (by unfold maxLen; omega)
  have hG63 : G ≤ 9223372036854775807 := hGm
  have hRS : ROW.size = G * 2 := by
    rw [hROW]
    simp [Builtin.zeroCells, htl]
    omega
  have B1 : Below w.heap.size w W1 := by rw [hW1]; exact gr_tr (gr_drew w) (gr_alloc _ _)
  have R1 : W1.heap[N]? = some (.cells ROW 97 (0, 0)) := by rw [hW1, ← hN]; exact heap_alloc_new w.drew _
  have V1 : W1.heap[vb]? = some (.cells news.toArray 97 (0, 0)) := blk_below hvb B1
  have G1 := blk_below hheap B1
  have hm1 : Nat.min 1 (n + 1 - i) = 1 := by simp only [Nat.min_def]; split <;> omega
  have hcA : (Builtin.copy_ #[72, 72] 3 #[.slice (some ⟨N, i * 2, none⟩) (n + 1 - i) (G - i), .slice (some ⟨vb, 0, none⟩) 1 1]).run Tryz.prog W1 = .ok (goInt (Nat.min 1 (n + 1 - i))) (W1.setCells N (i * 2) news) :=
    run_copy_k W1 _ _ _ 97 2 N (i * 2) (n + 1 - i) (G - i) ⟨vb, 0, none⟩ 1 1 news Tryz.underlying72 pc_info (by rw [hnl, hm1])
      (fun j v hj => by rw [Addr.add_lit, Nat.zero_add, cell_of_row _ _ _ _ _ _ V1, List.getElem?_toArray]; exact hj)
      (fun j hj => by rw [cell_of_row _ _ _ _ _ _ R1, Array.getElem?_eq_getElem (by rw [hRS]; rw [hnl] at hj; omega)]; rfl) (fun j hj => frozen_of_row _ _ _ _ _ R1) h1
  have R2 := putA_heap news (i * 2) W1 ROW R1
  have Q2 := putA_chg news (i * 2) W1 (g := N)
  have hs1 : (putA ROW (i * 2) news).size = G * 2 := by rw [putA_size, hRS]
  obtain ⟨cur1, hcur1⟩ : ∃ z, putA ROW (i * 2) news = z := ⟨_, rfl⟩
  rw [hcur1] at R2 hs1
  obtain ⟨W2, hW2⟩ : ∃ z, W1.setCells N (i * 2) news = z := ⟨_, rfl⟩
  rw [hW2] at hcA R2 Q2
  have G2 := Q2.blk G1 (fun e => by have e' : g = N := e; omega)
  have CPB := Lib.hid (show ∀ (Wx : World), Wx.heap[N]? = some (.cells cur1 97 (0, 0)) → Wx.heap[g]? = some (.cells cur 97 (0, 0)) → ∀ ty dc sc, (Builtin.copy_ #[72, 72] ty #[.slice (some ⟨N, (i + 1) * 2, none⟩) (n + 1 - (i + 1)) dc, .slice (some ⟨g, i * 2, none⟩) (n - i) sc]).run Tryz.prog Wx = .ok (goInt (Nat.min (n - i) (n + 1 - (i + 1)))) (Wx.setCells N ((i + 1) * 2) dr) from fun Wx hx hy ty dc sc =>
    run_copy_k Wx _ _ ty 97 2 N ((i + 1) * 2) (n + 1 - (i + 1)) dc ⟨g, i * 2, none⟩ (n - i) sc dr Tryz.underlying72 pc_info (by rw [hdl]; congr 1; simp only [Nat.min_def]; split <;> omega)
      (fun j v hj => by rw [Addr.add_lit, cell_of_row _ _ _ _ _ _ hy]; exact hdg j v hj)
      (fun j hj => by rw [cell_of_row _ _ _ _ _ _ hx, Array.getElem?_eq_getElem (by rw [hs1]; rw [hdl] at hj; omega)]; rfl) (fun j hj => frozen_of_row _ _ _ _ _ hx) (fun v hv => h2 v (by rw [← hdr] at hv; exact List.mem_of_mem_drop hv)))
  have htk : (putA cur1 ((i + 1) * 2) dr).toList.take ((n + 1) * 2) = xs.take (i * 2) ++ (news ++ dr) := by
    apply List.ext_getElem?
    intro j
    by_cases hj : j < (n + 1) * 2
    · rw [List.getElem?_take_of_lt hj, Array.getElem?_toList, putA_get _ _ _ _ (by rw [hs1, hdl]; omega)]
      by_cases hb : (i + 1) * 2 ≤ j ∧ j < (i + 1) * 2 + dr.length
      · rw [if_pos hb, List.getElem?_append_right (by rw [htl]; omega), htl, List.getElem?_append_right (by omega)]
        congr 1; omega
      · rw [if_neg hb, ← hcur1, putA_get _ _ _ _ (by rw [hRS, hnl]; omega)]
        by_cases ha : i * 2 ≤ j ∧ j < i * 2 + news.length
        · rw [if_pos ha, List.getElem?_append_right (by rw [htl]; omega), htl, List.getElem?_append_left (by omega)]
        · rw [if_neg ha, List.getElem?_append_left (by rw [htl]; rw [hdl] at hb; omega), hROW, Array.getElem?_append_left (by rw [Array.size_append, List.size_toArray, htl]; rw [hdl] at hb; omega), Array.getElem?_append_left (by rw [List.size_toArray, htl]; rw [hdl] at hb; omega), List.getElem?_toArray]
    · rw [List.getElem?_eq_none (by rw [List.length_take]; omega), List.getElem?_eq_none (by rw [List.length_append, List.length_append, htl, hdl, hnl]; omega)]
  have FIN := Lib.hid (show ∀ (Wx : World), Wx.heap[N]? = some (.cells cur1 97 (0, 0)) → (Wx.setCells N ((i + 1) * 2) dr).ownsRow base 97 2 (.slice (some ⟨N, 0, none⟩) (n + 1) G) (n + 1) (xs.take (i * 2) ++ (news ++ dr)) from fun Wx hx =>
    ⟨by rw [List.length_append, List.length_append, htl, hdl, hnl]; omega, .inr ⟨N, G, _, rfl, by omega, putA_heap _ _ _ _ hx, by omega, hGm, by rw [putA_size, hs1], htk⟩⟩)
  have sl1 : ∃ u1, ∀ w', (Instr.slice 72 (.slice (some ⟨g, 0, none⟩) n c) (some (.int .i64 (i : Int))) none none).run Tryz.prog w' = .ok u1 w' ∧ u1 = .slice (some ⟨g, i * 2, none⟩) (n - i) (c - i) := by
    refine ⟨.slice (some ⟨g, i * 2, none⟩) (n - i) (c - i), fun w' => ⟨?_, rfl⟩⟩
    rw [run_slice_l w' 72 (some ⟨g, 0, none⟩) n c pc_under .i64 i (by omega) (by omega), pc_size]
    simp [Result.andThen, sliced, Addr.add, show ¬ c = i by omega]
    intro h; exact h.symm
  have hu1 : ∀ w', (Instr.slice 72 (.slice (some ⟨g, 0, none⟩) n c) (some (.int .i64 (i : Int))) none none).run Tryz.prog w' = .ok (.slice (some ⟨g, i * 2, none⟩) (n - i) (c - i)) w' := by
    obtain ⟨u1, h⟩ := sl1
    intro w'
    rw [(h w').1, (h w').2]
  have r2 : ∀ w', (Instr.slice 72 (.slice (some ⟨g, 0, none⟩) n c) none (some (.int .i64 (i : Int))) none).run Tryz.prog w' = .ok (.slice (some ⟨g, 0, none⟩) i c) w' := fun w' => by
    rw [run_slice_h w' 72 (some ⟨g, 0, none⟩) n c pc_under .i64 i (by omega) (by omega), pc_size]
    simp [Result.andThen, sliced, Addr.add]
  have r3 : ∀ w', (Instr.slice 72 (.slice (some ⟨N, 0, none⟩) (n + 1) G) (some (.int .i64 ((i : Int) + 1))) none none).run Tryz.prog w' = .ok (.slice (some ⟨N, (i + 1) * 2, none⟩) (n + 1 - (i + 1)) (G - (i + 1))) w' := fun w' => by
    rw [run_slice_l w' 72 (some ⟨N, 0, none⟩) (n + 1) G pc_under .i64 (i + 1) (by omega) (by omega), pc_size]
    simp [Result.andThen, sliced, Addr.add, show ¬ G = i + 1 by omega]
  have r4 : ∀ w', (Instr.slice 72 (.slice (some ⟨N, 0, none⟩) (n + 1) G) (some (.int .i64 (i : Int))) none none).run Tryz.prog w' = .ok (.slice (some ⟨N, i * 2, none⟩) (n + 1 - i) (G - i)) w' := fun w' => by
    rw [run_slice_l w' 72 (some ⟨N, 0, none⟩) (n + 1) G pc_under .i64 i (by omega) (by omega), pc_size]
    simp [Result.andThen, sliced, Addr.add, show ¬ G = i by omega]
    intro h; exact h.symm
  have hin : ((i : Int) == (n : Int)) = false := by simp; omega
  have hcg : (c : Int) < (n : Int) + 1 := by omega
  have hi1 : (i : Int) ≤ 1048576 := by omega
  have HR2 := Lib.hid R2; have HG2 := Lib.hid G2
  have HC2 := Lib.hid (show Below w.heap.size w W2 from B1.trans (Q2.below (fun k e => by have e' : k = N := e; omega) B1.size))
  have HNW := Lib.hid hN
  have HA := Lib.hid ha
  rw [hdr]
  clear ha sl1 hlen htake hcs hheap hnc hcm hbase hv2 hv4 hdl hxs hdg htl hi0 hz0 hz1 hz2 hold hkk hik hG hROW hW1 hN hGn hGm hRS B1 R1 V1 G1 hm1 R2 Q2 hs1 hcur1 hW2 G2 htk hvb h1 h2 hnl hdr hgl hvl hbs
  (go_enter Tryz.func62, Tryz.ntmps62)
  go_upto_region 11 with (at_builtin; go_loud (refine wpList_append_runI w rfl (.tmp 34) (.tmp 39) 72 3 rfl (.slice (some ⟨g, 0, none⟩) i c) (.int .i64 ((n : Int) + 1 - (i : Int))) rfl rfl HA.out ?_))
  have hwi : IntKind.i64.wrap ((i : Int) + 1) = (i : Int) + 1 := by rw [IntKind.wrap_i64]; omega
  refine wp_region_planW (fun k => k = N) [(true, 0), (true, 1), (true, 2), (true, 3), (true, 4), (true, 5), (true, 6), (true, 7), (false, 8)] (by kernel_rfl) (by kernel_rfl) (by intro c a d v w h; cases d <;> exact h) ?_
  intro W3 K1 C1
  (refine wpS_firm rfl (fun K hK => ?_); simp only [Keep]; go_simp; refine hK _ ?_; clear hK K)
  (refine wpS_firm rfl (fun K hK => ?_); simp only [Keep]; go_simp; refine hK _ ?_; clear hK K)
  (refine wpS_firm rfl (fun K hK => ?_); simp only [Keep]; go_simp; refine hK _ ?_; clear hK K)
  (refine wpS_firm rfl (fun K hK => ?_); simp only [Keep]; go_simp; refine hK _ ?_; clear hK K)
  (refine wpS_firm rfl (fun K hK => ?_); simp only [Keep]; go_simp; refine hK _ ?_; clear hK K)
  (refine wpS_firm rfl (fun K hK => ?_); simp only [Keep]; go_simp; refine hK _ ?_; clear hK K)
  (refine wpS_firm rfl (fun K hK => ?_); simp only [Keep]; go_simp; refine hK _ ?_; clear hK K)
  (refine wpS_firm rfl (fun K hK => ?_); simp only [Keep]; go_simp; refine hK _ ?_; clear hK K)
  have H1 := blk_below HR2.out C1.out
  refine wpS_chain rfl ?_
  refine wpList_copy_runI W3 rfl (.tmp 50) (.tmp 53) 72 72 rfl (.slice (some ⟨N, (i + 1) * 2, none⟩) (n + 1 - (i + 1)) (G - (i + 1))) (.slice (some ⟨g, i * 2, none⟩) (n - i) (c - i)) (by simp [Act.eval, Act.put]) (by simp [Act.eval, Act.put]) (CPB.out W3 H1 (blk_below HG2.out C1.out) 3 (G - (i + 1)) (c - i)) ?_
  have Q1 := Lib.hid (putA_chg dr ((i + 1) * 2) W3 (g := N))
  have FF := Lib.hid (FIN.out W3 H1)
  obtain ⟨W4, hW4⟩ : ∃ z, z = W3.setCells N ((i + 1) * 2) dr := ⟨_, rfl⟩
  rw [← hW4] at Q1 FF ⊢
  have K2 := Lib.hid (K1.out.chgK Q1.out (fun k hk => .inl hk))
  clear hW4 H1
  go_wp2
  refine ⟨K2.out, ?_⟩
  unfold wpS
  go_wp2
  go_ret
  exact ⟨_, rfl, FF.out, newer_chg (Chg.of_below (gr_tr HC2.out C1.out)) (Nat.le_of_eq HNW.out) Q1.out⟩
/-- slices.Insert at the pieces. -/
theorem Insert_at (base : Nat) (v : Value) (n i vb : Nat) (xs news : List Value) (w : World) (hown : w.ownsRow base 97 2 v n xs) (hi : i ≤ n) (hn : n ≤ 1048576) (hnl : news.length = 2) (hvb : w.heap[vb]? = some (.cells news.toArray 97 (0, 0))) (hne : v.ownBlock ≠ some vb) (h1 : ∀ u ∈ news, u.oneCell' = true) (h2 : ∀ u ∈ xs, u.oneCell' = true) (hb : base ≤ w.heap.size) :
    Calls Tryz.prog 62 #[v, .int .i64 (i : Int), .slice (some ⟨vb, 0, none⟩) 1 1] w fun e w' => ∃ u, e = .returned u ∧ w'.ownsRow base 97 2 u (n + 1) (xs.take (i * 2) ++ (news ++ xs.drop (i * 2))) ∧ Chg (fun k => v.ownBlock = some k) w w' := by
  have hl : xs.length = n * 2 := hown.1
  rcases Nat.eq_or_lt_of_le hi with e | e
  · subst e
    refine (Insert_end base v i vb xs news w hown hn hnl hvb h1 hb).mono ?_
    rintro e w' ⟨u, rfl, h, hc⟩
    rw [List.take_of_length_le (by omega), List.drop_of_length_le (by omega), List.append_nil]
    exact ⟨u, rfl, h, hc⟩
  · obtain ⟨a, c, rfl⟩ := own_shape hown
    obtain ⟨g, rfl⟩ := own_some hown (by omega)
    have hne2 : vb ≠ g := fun e => hne (by rw [e]; rfl)
    by_cases hc : n + 1 ≤ c
    · refine (Insert_room base g n c i vb xs news w hown e hn hc hnl hvb hne2 h1 h2).mono ?_
      rintro e w' ⟨u, rfl, h, hc⟩
      exact ⟨u, rfl, h, hc.mono (fun k hk => by have e' : k = g := hk; rw [e']; rfl)⟩
    · refine (Insert_grow base g n c i vb xs news w hown e hn (by omega) hnl hvb h1 h2 hb).mono ?_
      rintro e w' ⟨u, rfl, h, hc⟩
      exact ⟨u, rfl, h, hc.mono (fun k hk => by have e' : k = g := hk; rw [e']; rfl)⟩
end Go.Proofs.YtabfmhlhdebcpaaGreatDoor
