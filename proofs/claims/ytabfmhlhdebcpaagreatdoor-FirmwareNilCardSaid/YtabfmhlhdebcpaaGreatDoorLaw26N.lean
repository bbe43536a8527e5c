/- FirmwareNil: the law's walk. A call as an argument. (Printed by genlaw26n.py over mkrep.py.) -/
import Derived.Test.YtabfmhlhdebcpaaGreatDoorFwV
import Derived.LoopN
namespace Go.Proofs.YtabfmhlhdebcpaaGreatDoor
open Go.RowKit Go.Shelf Fw
set_option linter.unusedVariables false
set_option linter.unusedSimpArgs false
namespace Fw
structure Cl where
  kind : Int
  off : BitVec 32
  data : Value
  slot : Int
  act : Int
  rev : List (BitVec 8)
def Cl.cells (x : Cl) : List Value := [.int .i64 x.kind, .int .u32 (uv x.off), x.data, .int .i64 x.slot, .int .i64 x.act, .string (strOf x.rev)]
def Cl.R (w : World) (x : Cl) : Prop := I64 x.kind ∧ True ∧ (∃ xs, SliceV w (fun y : BitVec 8 => [.int .u8 (uv y)]) x.data xs ∧ ∀ y ∈ xs, (fun _ : BitVec 8 => True) y) ∧ I64 x.slot ∧ I64 x.act ∧ x.rev.length ≤ 9223372036854775807
theorem Cl.cells_len : ∀ y, (Cl.cells y).length = 6 := fun _ => rfl
end Fw
set_option maxRecDepth 100000 in
theorem opens_Cl (w : World) : Opens Tryz.prog w 44 Cl Cl.cells (Cl.R w) := by
  intro H enc sp held fuel cs x h
  obtain ⟨hl, hfs⟩ := trod_fields Tryz.underlying44 h
  rw [show Tryz.prog.cellsOf 44 = 6 by kernel_rfl] at hl
  obtain ⟨y0, a0, r0⟩ := opens_field hfs 0 _ rfl 0 1 rfl (by kernel_rfl) (opens_i64 Tryz.underlying3)
  obtain ⟨y1, a1, r1⟩ := opens_field hfs 1 _ rfl 1 1 rfl (by kernel_rfl) (opens_u32 Tryz.underlying41)
  obtain ⟨y2, a2, r2⟩ := opens_field hfs 2 _ rfl 2 1 rfl (by kernel_rfl) ((opens_slice (k := 1) Tryz.underlying42 (by kernel_rfl) (by decide) (fun _ => rfl) (opens_u8 Tryz.underlying5)))
  obtain ⟨y3, a3, r3⟩ := opens_field hfs 3 _ rfl 3 1 rfl (by kernel_rfl) (opens_i64 Tryz.underlying3)
  obtain ⟨y4, a4, r4⟩ := opens_field hfs 4 _ rfl 4 1 rfl (by kernel_rfl) (opens_i64 Tryz.underlying3)
  obtain ⟨y5, a5, r5⟩ := opens_field hfs 5 _ rfl 5 1 rfl (by kernel_rfl) (opens_str Tryz.underlying9)
  have e := (glue a0 (by decide : 0 + 1 = 1) (glue a1 (by decide : 1 + 1 = 2) (glue a2 (by decide : 2 + 1 = 3) (glue a3 (by decide : 3 + 1 = 4) (glue a4 (by decide : 4 + 1 = 5) (glue a5 (by decide : 5 + 1 = 6) (glue_end hl)))))))
  rw [List.drop_zero] at e
  exact ⟨⟨y0, y1, y2, y3, y4, y5⟩, e, ⟨r0, r1, r2, r3, r4, r5⟩⟩
attribute [local go_sem] Oper.semAt_some
theorem zst_neq (w : World) : (binOp .neq 34 (.agg #[.int .i64 0, .int .i64 0, .string ⟨#[]⟩, .string ⟨#[]⟩, .string ⟨#[]⟩, .string ⟨#[]⟩, .string ⟨#[]⟩, .string ⟨#[]⟩, .string ⟨#[]⟩]) (.agg #[.int .i64 0, .int .i64 0, .string ⟨#[]⟩, .string ⟨#[]⟩, .string ⟨#[]⟩, .string ⟨#[]⟩, .string ⟨#[]⟩, .string ⟨#[]⟩, .string ⟨#[]⟩])).run Tryz.prog w = .ok (.bool false) w :=
  stt_neq ⟨0, 0, [[], [], [], [], [], [], []]⟩ rfl w
set_option maxHeartbeats 6400000 in
set_option maxRecDepth 20000 in
theorem lawNil (x : Cl) (w : World) (hR : Cl.R w x) :
    Calls Tryz.prog 9 #[.agg x.cells.toArray] w fun e w' => e = .returned (.bool true) ∧ Below w.heap.size w w' := by
  obtain ⟨kd, off, dv, sl, ac, rv⟩ := x
  obtain ⟨st, hst⟩ : ∃ z, strOf rv = z := ⟨_, rfl⟩
  show Calls Tryz.prog 9 #[.agg #[.int .i64 kd, .int .u32 (uv off), dv, .int .i64 sl, .int .i64 ac, .string (strOf rv)]] w _
  rw [hst]
  obtain ⟨o, ho⟩ : ∃ z, uv off = z := ⟨_, rfl⟩
  rw [ho]
  have hd1 : dv.oneCell' = true := by
    obtain ⟨-, -, ⟨xs, hs, -⟩, -⟩ := hR
    obtain ⟨a, c, h, -⟩ := hs
    have h : dv = _ := h
    subst h; rfl
  clear hst ho hR
  obtain ⟨W1, hW1⟩ : ∃ z, z = w.alloc (.cells #[.int .i64 kd, .int .u32 o, dv, .int .i64 sl, .int .i64 ac, .string st] 44) := ⟨_, rfl⟩
  have D1 := Lib.hid (show Below w.heap.size w W1 by rw [hW1]; exact gr_alloc _ _)
  have X1 := Lib.hid (show W1.heap[w.heap.size]? = some (.cells #[.int .i64 kd, .int .u32 o, dv, .int .i64 sl, .int .i64 ac, .string st] 44 (0, 0)) by rw [hW1]; exact heap_alloc_new w _)
  have S1 := Lib.hid (show W1.heap.size = w.heap.size + 1 by rw [hW1]; simp)
  obtain ⟨W2, hW2⟩ : ∃ z, z = W1.alloc (.cells #[.bool false] 4) := ⟨_, rfl⟩
  have D2 := Lib.hid (show Below W1.heap.size W1 W2 by rw [hW2]; exact gr_alloc _ _)
  have X2 := Lib.hid (show W2.heap[W1.heap.size]? = some (.cells #[.bool false] 4 (0, 0)) by rw [hW2]; exact heap_alloc_new W1 _)
  have H1 := Lib.hid hW1; have H2 := Lib.hid hW2
  clear hW1 hW2
  refine callsIn_wide.1 (callsIn_of_wp_marks (F := Fence.wide) (n := 8) Tryz.func9 rfl trivial ?_)
  simp only [Tryz.ntmps9, List.size_toArray, List.length_cons, List.length_nil, Nat.reduceAdd, Nat.reduceSub, Array.replicate_succ, Array.replicate_zero, List.push_toArray, List.append_toArray, List.nil_append, List.cons_append]
  refine wpIn_wide.2 ?_
  let FT : Exit → Act → World → Prop := bodyPost Tryz.prog Tryz.f9 (fun _ _ => True)
  go_upto_region 1 with fail
  rw [← H1.out, ← H2.out]
  clear FT
  go_upto_region 2 with fail
  go_wp2
  have P2 := Lib.hid (show W2.heap.size = w.heap.size + 2 by
    have h := S1.out
    rw [H2.out]; simp [h])
  obtain ⟨V, hV⟩ : ∃ z, z = (W2.alloc (.cells #[.int .i64 0, .bool false, .string ⟨#[]⟩, .int .i64 0, .int .i64 0, .int .i64 0, .string ⟨#[]⟩, .string ⟨#[]⟩, .string ⟨#[]⟩, .string ⟨#[]⟩, .string ⟨#[]⟩, .string ⟨#[]⟩, .string ⟨#[]⟩, .slice none 0 0] 74)).alloc (.cells #[.pointer none, .pointer (some ⟨W2.heap.size, 0, none⟩)] 25) := ⟨_, rfl⟩
  have XP := Lib.hid (show V.heap[W2.heap.size]? = some (.cells #[.int .i64 0, .bool false, .string ⟨#[]⟩, .int .i64 0, .int .i64 0, .int .i64 0, .string ⟨#[]⟩, .string ⟨#[]⟩, .string ⟨#[]⟩, .string ⟨#[]⟩, .string ⟨#[]⟩, .string ⟨#[]⟩, .string ⟨#[]⟩, .slice none 0 0] 74 (0, 0)) by rw [hV]; exact blk_below (heap_alloc_new W2 _) (gr_alloc _ _))
  have XB := Lib.hid (show V.heap[W2.heap.size + 1]? = some (.cells #[.pointer none, .pointer (some ⟨W2.heap.size, 0, none⟩)] 25 (0, 0)) by rw [hV, show W2.heap.size + 1 = (W2.alloc (.cells #[.int .i64 0, .bool false, .string ⟨#[]⟩, .int .i64 0, .int .i64 0, .int .i64 0, .string ⟨#[]⟩, .string ⟨#[]⟩, .string ⟨#[]⟩, .string ⟨#[]⟩, .string ⟨#[]⟩, .string ⟨#[]⟩, .string ⟨#[]⟩, .slice none 0 0] 74)).heap.size by simp]; exact heap_alloc_new _ _)
  have D4 := Lib.hid (show Below W2.heap.size W2 V by rw [hV]; exact gr_tr (gr_alloc _ _) (gr_alloc _ _))
  have X14 := Lib.hid (blk_below (blk_below X1.out D2.out) D4.out)
  have X24 := Lib.hid (blk_below X2.out D4.out)
  rw [S1.out] at X24
  have DV := Lib.hid (gr_tr (gr_tr D1.out D2.out) D4.out)
  rw [← hV]
  have c1 : V.cell? ⟨w.heap.size, 1, none⟩ = some (.int .u32 o) := (cell_of_row _ _ 1 _ _ _ X14.out).trans rfl
  have c2 : V.cell? ⟨w.heap.size, 2, none⟩ = some dv := (cell_of_row _ _ 2 _ _ _ X14.out).trans rfl
  have c3 : V.cell? ⟨w.heap.size, 3, none⟩ = some (.int .i64 sl) := (cell_of_row _ _ 3 _ _ _ X14.out).trans rfl
  have c4 : V.cell? ⟨w.heap.size, 4, none⟩ = some (.int .i64 ac) := (cell_of_row _ _ 4 _ _ _ X14.out).trans rfl
  obtain ⟨P, hP⟩ : ∃ z, W2.heap.size = z := ⟨_, rfl⟩
  rw [hP] at XP XB P2 ⊢
  have PZ := Lib.hid (show V.cell? ⟨P, 0, none⟩ = some (.int .i64 0) from (cell_of_row _ _ 0 _ _ _ XP.out).trans rfl)
  have c0 : V.cell? ⟨P + 1, 0, none⟩ = some (.pointer none) := (cell_of_row _ _ 0 _ _ _ XB.out).trans rfl
  have c5 : V.cell? ⟨P + 1, 1, none⟩ = some (.pointer (some ⟨P, 0, none⟩)) := (cell_of_row _ _ 1 _ _ _ XB.out).trans rfl
  have E := Lib.hid (Below.refl V.heap.size V)
  have hfn := fun (b : Nat) w => run_eql_func_nil (P := Tryz.prog) 64 _ Tryz.underlying64 rfl (.func 51) #[] #[.pointer (some ⟨b, 0, none⟩)] w
  have hzn := zst_neq
  clear hV hP H1 H2 S1 D1 D2 X1 X2 D4
  refine wp_loop_rounds 3 ?_
  rw [rounds_succ]
  have NV0 := Lib.hid (fun W' (h : Below V.heap.size V W') => (show NilV W' (.pointer none) from .inl rfl))
  go_upto_region 9 with (first
    | (go_at_call 24; go_loud (refine (Reset_nil _ _ (NV0.out _ E.out)).mono ?_; rintro e wa ⟨rfl, rfl⟩))
    | (go_at_call 21; go_loud (refine (Download_nil _ _ _ _ (NV0.out _ E.out)).mono ?_; rintro e wb0 ⟨rfl, hb⟩; replace E := Lib.hid (gr_tr E.out hb); replace c1 := below_cellE hb c1; replace c2 := below_cellE hb c2; replace c3 := below_cellE hb c3; replace c4 := below_cellE hb c4; replace c5 := below_cellE hb c5; clear hb))
    | (go_at_call 22; go_loud (refine (Commit_nil _ _ _ _ (NV0.out _ E.out)).mono ?_; rintro e wc0 ⟨rfl, hb⟩; replace E := Lib.hid (gr_tr E.out hb); replace c1 := below_cellE hb c1; replace c2 := below_cellE hb c2; replace c3 := below_cellE hb c3; replace c4 := below_cellE hb c4; replace c5 := below_cellE hb c5; clear hb))
    | (go_at_call 23; go_loud (refine (State_nil _ _ (NV0.out _ E.out)).mono ?_; rintro e wd0 ⟨rfl, hb⟩; replace E := Lib.hid (gr_tr E.out hb); replace c1 := below_cellE hb c1; replace c2 := below_cellE hb c2; replace c3 := below_cellE hb c3; replace c4 := below_cellE hb c4; replace c5 := below_cellE hb c5; clear hb))
    | (go_at_call 26; go_loud (refine (Copy_nil _ _ (NV0.out _ E.out)).mono ?_; rintro e we ⟨rfl, rfl⟩))
    | (go_at_call 25; go_loud (refine (Pieces_nil _ _ (NV0.out _ E.out)).mono ?_; rintro e wf0 ⟨rfl, hu, hb⟩; have U := Lib.hid hu; replace E := Lib.hid (gr_tr E.out hb); replace c1 := below_cellE hb c1; replace c2 := below_cellE hb c2; replace c3 := below_cellE hb c3; replace c4 := below_cellE hb c4; replace c5 := below_cellE hb c5; clear hb hu))
    | (go_at_call 20; go_loud (refine (is_at 6 6 true _ Kn.k6 rfl).mono ?_; rintro e wg0 ⟨rfl, hb⟩; replace E := Lib.hid (gr_tr E.out hb); replace c1 := below_cellE hb c1; replace c2 := below_cellE hb c2; replace c3 := below_cellE hb c3; replace c4 := below_cellE hb c4; replace c5 := below_cellE hb c5; clear hb)))
  go_upto_region 12 with fail
  have U4 := U
  have BL4 := Lib.hid (show _ < wf0.heap.size from (Array.getElem?_eq_some_iff.1 U4.out).1)
  refine (wpIn_wide (n := 8)).1 ?_
  refine rf_ret (F := Fence.wide) (n := 8) rfl (by omega) (gf := 51) (lb := #[.pointer (some ⟨wd0.heap.size, 0, none⟩)]) rfl trivial (enters_of Tryz.func51 (by kernel_rfl) rfl)
    (Pieces_stops 7 (by omega) 0 (.slice none 0 0) [] wd0.heap.size wf0 BL4.out U4.out (SliceV.of_own (f := pcC) (k := 2) (by decide) pcC_len (World.ownsRow_nil wf0 0 97 2)) rfl (by omega) (fun k hk => by (cases hk)) (fun x hx => by (cases hx)))
    (fun h1 h2 k hk => (h2 k hk).trans (h1 k hk)) (fun W1 l o o' hl _ _ _ k hk => by (cases hk)) (Below.refl _ _) (fun _ => rfl)
    (fun pre X => Below wf0.heap.size wf0 X) (fun pre X => False)
    ?hI0 ?hIx0 (Below.refl _ _) ⟨fun _ => { tmps := #[], defers := [] }, fun l x => x.elim0, fun l pre x => x.elim0⟩ ?done0 ?stop0
  case hI0 =>
    rintro s X Y row h hg hr
    exact h.grown hg h.size (fun k e => (hr k e).1)
  case hIx0 =>
    rintro s X Y row h hg hr
    exact h
  case stop0 =>
    rintro D pre X hD hS h hK
    exact h.elim
  rintro DD0 xs0 X0 hD hS hI hK
  have KD0 := Lib.hid (show X0.heap[DD0]? = some (.deferred (some [])) from hK)
  have GD0 := Lib.hid (Nat.le_trans E.out.size hD)
  skip
  replace E := Lib.hid (gr_tr E.out hI)
  replace c1 := below_cellE hI c1
  replace c2 := below_cellE hI c2
  replace c3 := below_cellE hI c3
  replace c4 := below_cellE hI c4
  replace c5 := below_cellE hI c5;
  clear hD hS hI hK xs0 U U4 BL4
  go_wp2
  rw [rounds_succ]
  have NV1 := Lib.hid (fun W' (h : Below V.heap.size V W') => (show NilV W' (.pointer (some ⟨P, 0, none⟩)) from .inr ⟨P, rfl, below_cellE h PZ.out⟩))
  go_upto_region 9 with (first
    | (go_at_call 24; go_loud (refine (Reset_nil _ _ (NV1.out _ E.out)).mono ?_; rintro e wa ⟨rfl, rfl⟩))
    | (go_at_call 21; go_loud (refine (Download_nil _ _ _ _ (NV1.out _ E.out)).mono ?_; rintro e wb1 ⟨rfl, hb⟩; replace E := Lib.hid (gr_tr E.out hb); replace c1 := below_cellE hb c1; replace c2 := below_cellE hb c2; replace c3 := below_cellE hb c3; replace c4 := below_cellE hb c4; replace c5 := below_cellE hb c5; replace KD0 := Lib.hid (blk_below KD0.out hb); clear hb))
    | (go_at_call 22; go_loud (refine (Commit_nil _ _ _ _ (NV1.out _ E.out)).mono ?_; rintro e wc1 ⟨rfl, hb⟩; replace E := Lib.hid (gr_tr E.out hb); replace c1 := below_cellE hb c1; replace c2 := below_cellE hb c2; replace c3 := below_cellE hb c3; replace c4 := below_cellE hb c4; replace c5 := below_cellE hb c5; replace KD0 := Lib.hid (blk_below KD0.out hb); clear hb))
    | (go_at_call 23; go_loud (refine (State_nil _ _ (NV1.out _ E.out)).mono ?_; rintro e wd1 ⟨rfl, hb⟩; replace E := Lib.hid (gr_tr E.out hb); replace c1 := below_cellE hb c1; replace c2 := below_cellE hb c2; replace c3 := below_cellE hb c3; replace c4 := below_cellE hb c4; replace c5 := below_cellE hb c5; replace KD0 := Lib.hid (blk_below KD0.out hb); clear hb))
    | (go_at_call 26; go_loud (refine (Copy_nil _ _ (NV1.out _ E.out)).mono ?_; rintro e we ⟨rfl, rfl⟩))
    | (go_at_call 25; go_loud (refine (Pieces_nil _ _ (NV1.out _ E.out)).mono ?_; rintro e wf1 ⟨rfl, hu, hb⟩; have U := Lib.hid hu; replace E := Lib.hid (gr_tr E.out hb); replace c1 := below_cellE hb c1; replace c2 := below_cellE hb c2; replace c3 := below_cellE hb c3; replace c4 := below_cellE hb c4; replace c5 := below_cellE hb c5; replace KD0 := Lib.hid (blk_below KD0.out hb); clear hb hu))
    | (go_at_call 20; go_loud (refine (is_at 6 6 true _ Kn.k6 rfl).mono ?_; rintro e wg1 ⟨rfl, hb⟩; replace E := Lib.hid (gr_tr E.out hb); replace c1 := below_cellE hb c1; replace c2 := below_cellE hb c2; replace c3 := below_cellE hb c3; replace c4 := below_cellE hb c4; replace c5 := below_cellE hb c5; replace KD0 := Lib.hid (blk_below KD0.out hb); clear hb)))
  go_upto_region 12 with fail
  have U4 := U
  have BL4 := Lib.hid (show _ < wf1.heap.size from (Array.getElem?_eq_some_iff.1 U4.out).1)
  refine (wpIn_wide (n := 8)).1 ?_
  refine rf_ret (F := Fence.wide) (n := 8) rfl (by omega) (gf := 51) (lb := #[.pointer (some ⟨wd1.heap.size, 0, none⟩)]) rfl trivial (enters_of Tryz.func51 (by kernel_rfl) rfl)
    (Pieces_stops 7 (by omega) 0 (.slice none 0 0) [] wd1.heap.size wf1 BL4.out U4.out (SliceV.of_own (f := pcC) (k := 2) (by decide) pcC_len (World.ownsRow_nil wf1 0 97 2)) rfl (by omega) (fun k hk => by (cases hk)) (fun x hx => by (cases hx)))
    (fun h1 h2 k hk => (h2 k hk).trans (h1 k hk)) (fun W1 l o o' hl _ _ _ k hk => by (cases hk)) (Below.refl _ _) (fun _ => rfl)
    (fun pre X => Below wf1.heap.size wf1 X) (fun pre X => False)
    ?hI1 ?hIx1 (Below.refl _ _) ⟨fun _ => { tmps := #[], defers := [] }, fun l x => x.elim0, fun l pre x => x.elim0⟩ ?done1 ?stop1
  case hI1 =>
    rintro s X Y row h hg hr
    exact h.grown hg h.size (fun k e => (hr k e).1)
  case hIx1 =>
    rintro s X Y row h hg hr
    exact h
  case stop1 =>
    rintro D pre X hD hS h hK
    exact h.elim
  rintro DD1 xs1 X1 hD hS hI hK
  have KD1 := Lib.hid (show X1.heap[DD1]? = some (.deferred (some [])) from hK)
  have GD1 := Lib.hid (Nat.le_trans E.out.size hD)
  have LT := Lib.hid (Nat.lt_of_lt_of_le (Array.getElem?_eq_some_iff.1 KD0.out).1 hD)
  replace E := Lib.hid (gr_tr E.out hI)
  replace c1 := below_cellE hI c1
  replace c2 := below_cellE hI c2
  replace c3 := below_cellE hI c3
  replace c4 := below_cellE hI c4
  replace c5 := below_cellE hI c5
  replace KD0 := Lib.hid (blk_below KD0.out hI);
  clear hD hS hI hK xs1 U U4 BL4
  go_wp2
  rw [rounds_succ]
  have VL := Lib.hid (show w.heap.size + 1 < V.heap.size from (Array.getElem?_eq_some_iff.1 X24.out).1)
  go_wp2_with (go_at_call 12; go_loud ((with_reducible refine (known_any _).mono ?_); rintro e wk ⟨rfl, hb⟩; replace E := Lib.hid (gr_tr E.out hb); have X9 := Lib.hid (blk_below X24.out E.out); have x6 : wk.cell? ⟨w.heap.size + 1, 0, none⟩ = some (.bool false) := (cell_of_row _ _ 0 _ _ _ X9.out).trans rfl; have z6 := frozen_of_row _ _ 0 _ _ X9.out; replace KD0 := Lib.hid (blk_below KD0.out hb); replace KD1 := Lib.hid (blk_below KD1.out hb); clear hb))
  obtain ⟨Y, hY⟩ : ∃ z, z = wk.setCell ⟨w.heap.size + 1, 0, none⟩ (.bool true) := ⟨_, rfl⟩
  have gv := VL.out; have g0 := GD0.out; have g1 := GD1.out; have gl := LT.out
  have Y0 : Y.heap[DD0]? = some (.deferred (some [])) := by rw [hY, heap_setCell_other _ _ _ _ (by show DD0 ≠ w.heap.size + 1; omega)]; exact KD0.out
  have Y1 : Y.heap[DD1]? = some (.deferred (some [])) := by rw [hY, heap_setCell_other _ _ _ _ (by show DD1 ≠ w.heap.size + 1; omega)]; exact KD1.out
  have YR : Y.heap[w.heap.size + 1]? = some (.cells #[.bool true] 4 (0, 0)) := by rw [hY]; exact heap_setCell_same _ _ _ _ _ _ X9.out
  have YB : Below w.heap.size w Y := by rw [hY]; exact (gr_tr DV.out E.out).setCell (p := ⟨w.heap.size + 1, 0, none⟩) (by show w.heap.size ≤ w.heap.size + 1; omega) _
  rw [← hY]
  refine ⟨by simp, .inl ⟨_, _, rfl, run_takeDeferred Y1, ?_⟩⟩
  refine ⟨by simp, .inl ⟨_, _, rfl, run_takeDeferred ((World.putObj_heap_other (by omega)).trans Y0), ?_⟩⟩
  refine ⟨.bool true, results_cell1 rfl _ _ (w.heap.size + 1) _ 4 (0, 0) _ rfl ((World.putObj_heap_other (by omega)).trans ((World.putObj_heap_other (by omega)).trans YR)) Tryz.underlying4 rfl, rfl, ?_⟩
  have h1 : Below w.heap.size w (Y.putObj DD1 (.deferred none)) := YB.grown (grownBy_putObj' Y DD1 _) YB.size (fun j e => by cases e; omega)
  exact h1.grown (grownBy_putObj' _ DD0 _) h1.size (fun j e => by cases e; omega)
end Go.Proofs.YtabfmhlhdebcpaaGreatDoor
