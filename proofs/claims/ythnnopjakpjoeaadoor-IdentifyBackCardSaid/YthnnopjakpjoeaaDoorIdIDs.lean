/- identify.EncodeIDs. Printed by genids.py. -/
import Derived.Test.YthnnopjakpjoeaaDoorIdE
import Derived.Test.YthnnopjakpjoeaaDoorZeros
import Derived.Test.YthnnopjakpjoeaaDoorPlan2
namespace Go.Proofs.YthnnopjakpjoeaaDoor
open Go.RowKit Idn Go.ChangeShapes Go.WideShapes Go.ChangeAt
set_option linter.unusedVariables false
set_option linter.unusedSimpArgs false
structure Ids where
  e : List (BitVec 8)
  g : List (BitVec 8)
  u : List (BitVec 8)
  set : BitVec 8
def Ids.cells (x : Ids) : List Value := (x.e.flatMap (fun y : BitVec 8 => [.int .u8 (uv y)])) ++ ((x.g.flatMap (fun y : BitVec 8 => [.int .u8 (uv y)])) ++ ((x.u.flatMap (fun y : BitVec 8 => [.int .u8 (uv y)])) ++ ([.int .u8 (uv x.set)] ++ ([]))))
def Ids.R (w : World) (x : Ids) : Prop := (x.e.length = 8 ∧ ∀ y ∈ x.e, (fun _ : BitVec 8 => True) y) ∧ (x.g.length = 16 ∧ ∀ y ∈ x.g, (fun _ : BitVec 8 => True) y) ∧ (x.u.length = 16 ∧ ∀ y ∈ x.u, (fun _ : BitVec 8 => True) y) ∧ True
set_option maxRecDepth 100000 in
theorem opens_Ids (w : World) : Opens Tryd.prog w 76 Ids Ids.cells (Ids.R w) := by
  intro H enc sp held fuel cs x h
  obtain ⟨hl, hfs⟩ := trod_fields Tryd.underlying76 h
  rw [show Tryd.prog.cellsOf 76 = 41 by kernel_rfl] at hl
  obtain ⟨y0, a0, r0⟩ := opens_field hfs 0 _ rfl 0 8 rfl (by kernel_rfl) ((opens_array (k := 1) Tryd.underlying74 (by kernel_rfl) (by kernel_rfl) (fun _ => rfl) (opens_u8 Tryd.underlying5)))
  obtain ⟨y1, a1, r1⟩ := opens_field hfs 1 _ rfl 8 16 rfl (by kernel_rfl) ((opens_array (k := 1) Tryd.underlying66 (by kernel_rfl) (by kernel_rfl) (fun _ => rfl) (opens_u8 Tryd.underlying5)))
  obtain ⟨y2, a2, r2⟩ := opens_field hfs 2 _ rfl 24 16 rfl (by kernel_rfl) ((opens_array (k := 1) Tryd.underlying66 (by kernel_rfl) (by kernel_rfl) (fun _ => rfl) (opens_u8 Tryd.underlying5)))
  obtain ⟨y3, a3, r3⟩ := opens_field hfs 3 _ rfl 40 1 rfl (by kernel_rfl) (opens_u8 Tryd.underlying5)
  have e := (glue a0 (by decide : 0 + 8 = 8) (glue a1 (by decide : 8 + 16 = 24) (glue a2 (by decide : 24 + 16 = 40) (glue a3 (by decide : 40 + 1 = 41) (glue_end hl)))))
  rw [List.drop_zero] at e
  exact ⟨⟨y0, y1, y2, y3⟩, e, ⟨r0, r1, r2, r3⟩⟩
set_option maxRecDepth 20000 in
theorem wpList_index4 {ops : Array Oper} {rest : List Oper} {op : Oper} {a : Act} {w : World} {Q : Exit → Act → World → Prop} (hgd : op.guard = none) (x i : Operand) (ho : op.op = .index 186 x i) (s0 s1 s2 s3 : Value)
    (hx : a.eval x = .agg #[s0, s1, s2, s3]) (k : Int) (hi : a.eval i = .int .i64 k) (v : Value)
    (hv : (k = 0 ∧ v = s0) ∨ (k = 1 ∧ v = s1) ∨ (k = 2 ∧ v = s2) ∨ (k = 3 ∧ v = s3))
    (h : wpList Tryd.prog ops Q rest (a.put op.dst v) w) : wpList Tryd.prog ops Q (op :: rest) a w := by
  refine wpList_plain hgd fun _ hK => ?_
  have hr : (Instr.index 186 (.agg #[s0, s1, s2, s3]) (.int .i64 k)).run Tryd.prog w = .ok v w := by
    rcases hv with ⟨rfl, rfl⟩ | ⟨rfl, rfl⟩ | ⟨rfl, rfl⟩ | ⟨rfl, rfl⟩ <;> rfl
  unfold Oper.wp execOp
  simp only [ho, hx, hi, Sem.run_bind, Sem.run_pure, Result.andThen_ok, hr]
  exact hK _ _ h
theorem Ids.cells_eq (x : Ids) : Ids.cells x = by8 x.e ++ (by8 x.g ++ (by8 x.u ++ [.int .u8 (uv x.set)])) := by
  unfold Ids.cells by8
  rw [flat_one, flat_one, flat_one]; rfl
theorem row_block {w : World} {X : Nat} {cs : List Value} {T : TypeId} {fr : Nat × Nat} (h : w.heap[X]? = some (.cells cs.toArray T fr)) (o : Nat) (vs : List Value) (hv : (cs.drop o).take vs.length = vs) : Row w (some ⟨X, o, none⟩) vs := by
  refine .inr ⟨X, o, rfl, fun i hi => ?_⟩
  rw [cell_of_row w X (o + i) cs.toArray T fr h]
  have := congrArg (fun l : List Value => l[i]?) hv
  simp only [List.getElem?_take_of_lt hi, List.getElem?_drop] at this
  simpa using this
namespace Idn
def idPart (i : Nat) (l : List (BitVec 8)) : List (BitVec 8) := if l.any nonzero then [BitVec.ofNat 8 (i + 1), BitVec.ofNat 8 l.length, 0#8, 0#8] ++ l else []
def idsL (x : Ids) : List (List (BitVec 8)) := [idPart 0 x.e, idPart 1 x.g, idPart 2 x.u, if nonzero x.set then [4#8, 1#8, 0#8, 0#8, x.set - 1#8] else []]
def idsO (x : Ids) (k : Nat) : List (BitVec 8) := ((idsL x).take k).flatten
def idsB (x : Ids) : List (BitVec 8) := idsO x 4 ++ List.replicate (4096 - (idsO x 4).length) 0#8
def Ids.Ok (x : Ids) : Prop := x.e.length = 8 ∧ x.g.length = 16 ∧ x.u.length = 16
theorem idPart_len (i : Nat) (l : List (BitVec 8)) : (idPart i l).length ≤ 4 + l.length := by unfold idPart; split <;> simp; omega
theorem idsO_len (x : Ids) (h : Ids.Ok x) (k : Nat) : (idsO x k).length ≤ 57 := by
  obtain ⟨h1, h2, h3⟩ := h
  have l1 := idPart_len 0 x.e; have l2 := idPart_len 1 x.g; have l3 := idPart_len 2 x.u
  have l4 : (if nonzero x.set then [4#8, 1#8, 0#8, 0#8, x.set - 1#8] else []).length ≤ 5 := by split <;> simp
  unfold idsO idsL
  match k with
  | 0 => simp
  | 1 => simp; omega
  | 2 => simp; omega
  | 3 => simp; omega
  | k + 4 => simp only [List.take_succ_cons, List.take_nil, List.flatten_cons, List.flatten_nil, List.length_append, List.length_nil]; omega
theorem idsO_next (x : Ids) (k : Nat) (p : List (BitVec 8)) (h : (idsL x)[k]? = some p) : idsO x (k + 1) = idsO x k ++ p := by
  obtain ⟨hk, rfl⟩ := List.getElem?_eq_some_iff.1 h
  unfold idsO
  rw [List.take_succ_eq_append_getElem hk, List.flatten_append]; simp
end Idn
theorem lit_at {w : World} {g : Nat} {y : BitVec 8} (h : w.heap[g]? = some (.cells #[.int .u8 (uv y)] 5 (0, 0))) : BytesV w (.slice (some ⟨g, 0, none⟩) 1 1) [y] :=
  ⟨_, _, rfl, by simp, Nat.le_refl _, by simp, row_block (cs := [.int .u8 (uv y)]) h 0 _ rfl⟩
set_option maxHeartbeats 3200000 in
set_option maxRecDepth 20000 in
theorem EncI_at (x : Ids) (w : World) (hx : Ids.Ok x) :
    Calls Tryd.prog 38 #[.agg (Ids.cells x).toArray] w fun e w' => ∃ u, e = .returned u ∧ BytesV w' u (idsB x) ∧ Below w.heap.size w w' := by
  have HX := Lib.hid hx
  obtain ⟨h1, h2, h3⟩ := hx
  obtain ⟨W, hW⟩ : ∃ W, W = w.alloc (.cells (Ids.cells x).toArray 76) := ⟨_, rfl⟩
  have BX := Lib.hid (show W.heap[w.heap.size]? = some (.cells (Ids.cells x).toArray 76 (0, 0)) by rw [hW]; exact heap_alloc_new w _)
  have D := Lib.hid (show Below w.heap.size w W by rw [hW]; exact gr_alloc w _)
  have HS := Lib.hid (show w.heap.size < W.heap.size by rw [hW]; simp)
  have HW := Lib.hid hW; clear hW
  obtain ⟨cs, hcs⟩ : ∃ cs, (Ids.cells x).toArray = cs := ⟨_, rfl⟩
  have cl : Ids.cells x = by8 x.e ++ (by8 x.g ++ (by8 x.u ++ [.int .u8 (uv x.set)])) := Ids.cells_eq x
  have FE := Lib.hid (show ∀ W' : World, W'.heap[w.heap.size]? = some (.cells cs 76 (0, 0)) → BytesV W' (.slice (some ⟨w.heap.size, 0, none⟩) 8 8) x.e from fun W' h => ⟨some ⟨w.heap.size, 0, none⟩, 8, by rw [h1], by simp, by omega, by omega, row_block (cs := Ids.cells x) (by rw [hcs]; exact h) 0 _ (by rw [cl, List.drop_zero, List.take_left' (by rfl)])⟩)
  have FG := Lib.hid (show ∀ W' : World, W'.heap[w.heap.size]? = some (.cells cs 76 (0, 0)) → BytesV W' (.slice (some ⟨w.heap.size, 8, none⟩) 16 16) x.g from fun W' h => ⟨some ⟨w.heap.size, 8, none⟩, 16, by rw [h2], by simp, by omega, by omega, row_block (cs := Ids.cells x) (by rw [hcs]; exact h) 8 _ (by rw [cl, List.drop_left' (by rw [by8_length]; exact h1), List.take_left' (by rfl)])⟩)
  have FU := Lib.hid (show ∀ W' : World, W'.heap[w.heap.size]? = some (.cells cs 76 (0, 0)) → BytesV W' (.slice (some ⟨w.heap.size, 24, none⟩) 16 16) x.u from fun W' h => ⟨some ⟨w.heap.size, 24, none⟩, 16, by rw [h3], by simp, by omega, by omega, row_block (cs := Ids.cells x) (by rw [hcs]; exact h) 24 _ (by rw [cl, ← List.append_assoc, List.drop_left' (by rw [List.length_append, by8_length, by8_length]; omega), List.take_left' (by rfl)])⟩)
  have F40 := Lib.hid (show cs[40]? = some (.int .u8 (uv x.set)) by rw [← hcs, List.getElem?_toArray, cl, ← List.append_assoc, ← List.append_assoc, List.getElem?_append_right (by simp; omega)]; simp [h1, h2, h3])
  rw [hcs] at BX HW ⊢
  clear hcs cl h1 h2 h3
  have q40 : ∀ y : KeepT nowhere W, y.val.cell? ⟨w.heap.size, 40, none⟩ = some (.int .u8 (uv x.set)) := fun y => y.cell ((cell_of_row _ _ 40 _ _ _ BX.out).trans F40.out) id
  go_enter Tryd.func38, Tryd.ntmps38
  go_upto_region 1 with (fail)
  rw [← HW.out]
  go_upto_region 2 with (fail)
  go_wp2
  refine wp_region_planW nowhere [(true, 0), (true, 1), (true, 2), (true, 3), (true, 4), (true, 5), (true, 6), (true, 7), (true, 10), (false, 8), (true, 9)] (by kernel_rfl) (by kernel_rfl) (by intro c a d v w h; cases d <;> exact h) ?_
  intro W1 K1 C1
  repeat (refine wpS_firm rfl (fun K hK => ?_); simp only [Keep]; go_simp; refine hK _ ?_; clear hK K)
  refine wpS_chain rfl ?_
  go_wp2_with fail
  refine ⟨K1.out.alloc _, ?_⟩
  repeat (refine wpS_firm rfl (fun K hK => ?_); simp only [Keep]; go_simp; refine hK _ ?_; clear hK K)
  unfold wpS
  have HY := Lib.hid (heap_alloc_new W1 (.cells #[.int .u8 (uv x.set)] 5))
  have CY := Lib.hid (gr_tr C1.out (gr_alloc W1 (.cells #[.int .u8 (uv x.set)] 5)))
  generalize hWY : (W1.alloc (.cells #[.int .u8 (uv x.set)] 5)) = WY at *
  have BY := Lib.hid (blk_below BX.out CY.out)
  have DY := Lib.hid (gr_tr D.out CY.out)
  clear hWY q40
  go_wp2
  go_loopw [3, 16] (fun out i wr => ∃ k : Nat, k ≤ 4 ∧ i = .int .i64 k ∧ (∃ P : List (BitVec 8), Hid (idsO x k = P) ∧ wr.ownsRow WY.heap.size 5 1 out P.length (by8 P)) ∧ Below WY.heap.size WY wr) (fun _ i _ => 4 - (intOf i).toNat)
  case atStart => exact ⟨0, by omega, rfl, ⟨[], rfl, World.ownsRow_nil _ _ _ _⟩, Below.refl _ _⟩
  case round =>
    obtain ⟨k, hk, rfl, ⟨P, hP, ho⟩, hb⟩ := hrel
    have O := Lib.hid ho; have B := Lib.hid hb; clear ho hb
    have BXr := Lib.hid (blk_below BY.out B.out); have BYr := Lib.hid (blk_below HY.out B.out)
    have HPL := Lib.hid (show P.length ≤ 57 by rw [← hP.out]; exact idsO_len x HX.out k)
    have hk5 : k = 0 ∨ k = 1 ∨ k = 2 ∨ k = 3 ∨ k = 4 := by omega
    rcases hk5 with rfl | rfl | rfl | rfl | rfl
    · have e : ((0 : Nat) : Int) = 0 := rfl
      rw [e]; clear e
      obtain ⟨b, hb⟩ : ∃ b, (x.e).any nonzero = b := ⟨_, rfl⟩
      have HB := Lib.hid hb
      have V := Lib.hid (FE.out _ BXr.out)
      cases b
      · have HN := Lib.hid (idsO_next x 0 [] (by rw [show (idsL x)[0]? = some (idPart 0 x.e) from rfl]; unfold idPart; rw [hb]; rfl))
        clear hb
        go_wp2_with (first | (refine wpList_index4 rfl (.tmp 15) (.tmp 16) rfl (.slice (some ⟨w.heap.size, 0, none⟩) 8 8) (.slice (some ⟨w.heap.size, 8, none⟩) 16 16) (.slice (some ⟨w.heap.size, 24, none⟩) 16 16) (.slice (some ⟨W1.heap.size, 0, none⟩) 1 1) rfl 0 rfl (.slice (some ⟨w.heap.size, 0, none⟩) 8 8) (by simp) ?_) | (go_at_call 97; go_loud (refine (contains_ids _ x.e false _ V.out HB.out).mono ?_; rintro r w' ⟨rfl, rfl⟩)))
        go_roundw
        case rel => exact ⟨1, by omega, by go_num, ⟨P, Lib.hid (by rw [HN.out, List.append_nil]; exact hP.out), O.out⟩, B.out⟩
        case measure => simp [intOf]
      · have hlen := HX.out
        have HN := Lib.hid (idsO_next x 0 ([1#8, 8#8, 0#8, 0#8] ++ x.e) (by rw [show (idsL x)[0]? = some (idPart 0 x.e) from rfl]; unfold idPart; rw [hb, if_pos rfl, hlen.1]))
        clear hb hlen
        go_upto_region 8 with (first | (refine wpList_index4 rfl (.tmp 15) (.tmp 16) rfl (.slice (some ⟨w.heap.size, 0, none⟩) 8 8) (.slice (some ⟨w.heap.size, 8, none⟩) 16 16) (.slice (some ⟨w.heap.size, 24, none⟩) 16 16) (.slice (some ⟨W1.heap.size, 0, none⟩) 1 1) rfl 0 rfl (.slice (some ⟨w.heap.size, 0, none⟩) 8 8) (by simp) ?_) | (go_at_call 97; go_loud (refine (contains_ids _ x.e true _ V.out HB.out).mono ?_; rintro r w' ⟨rfl, rfl⟩)))
        have G4 := Lib.hid (gr_alloc wr (.cells #[.int .u8 (uv 1#8), .int .u8 (uv 8#8), .int .u8 0, .int .u8 0] 5))
        have L4 := Lib.hid (show BytesV (wr.alloc (.cells #[.int .u8 (uv 1#8), .int .u8 (uv 8#8), .int .u8 0, .int .u8 0] 5)) (.slice (some ⟨wr.heap.size, 0, none⟩) 4 4) [1#8, 8#8, 0#8, 0#8] from ⟨_, _, rfl, by simp, Nat.le_refl _, by simp, Row.lit wr #[.int .u8 (uv 1#8), .int .u8 (uv 8#8), .int .u8 0, .int .u8 0] 5 (0, 0)⟩)
        have VV := Lib.hid (show BytesV (wr.alloc (.cells #[.int .u8 (uv 1#8), .int .u8 (uv 8#8), .int .u8 0, .int .u8 0] 5)) (.slice (some ⟨w.heap.size, 0, none⟩) 8 8) x.e from V.out.below (gr_alloc wr _))
        have LN := Lib.hid (show (x.e).length ≤ 16 by have := HX.out; unfold Idn.Ids.Ok at this; first | (simp; done) | omega)
        go_wp2_with (first
          | (at_builtin; refine app_more rfl (.tmp 29) (.tmp 36) rfl _ WY.heap.size P.length P rfl (own_below O.out G4.out) (Nat.le_trans B.out.size G4.out.size) (.slice (some ⟨wr.heap.size, 0, none⟩) 4 4) [1#8, 8#8, 0#8, 0#8] rfl L4.out (by have := HPL.out; simp; omega) ?_; intro v1 w5 ho hg hb; have O1 := Lib.hid ho; have B5 := Lib.hid ((B.out.trans (G4.out.mono B.out.size)).trans hb); have V5 := Lib.hid (show BytesV w5 (.slice (some ⟨w.heap.size, 0, none⟩) 8 8) x.e from VV.out.chg (Chg.of_grown (B := fun b => (_ : Value).ownBlock = some b) hg (fun k hk => hk)) (fun g o n c e h => by cases e; have := (O.out.lt _ h).1; have := (Array.getElem?_eq_some_iff.1 BY.out).1; omega)); clear ho hg hb)
          | (at_builtin; refine app_more rfl (.tmp 37) (.tmp 38) rfl v1 WY.heap.size _ (P ++ [1#8, 8#8, 0#8, 0#8]) rfl O1.out B5.out.size (.slice (some ⟨w.heap.size, 0, none⟩) 8 8) x.e rfl V5.out (by have := HPL.out; have := LN.out; simp; omega) ?_; intro v2 w6 ho hg hb; have O2 := Lib.hid ho; have B6 := Lib.hid (B5.out.trans hb); clear ho hg hb))
        go_roundw
        case rel => exact ⟨1, by omega, by go_num, ⟨P ++ ([1#8, 8#8, 0#8, 0#8] ++ x.e), Lib.hid (by rw [HN.out, hP.out]), by
          have h := O2.out
          rw [List.append_assoc] at h
          rw [show (P ++ ([1#8, 8#8, 0#8, 0#8] ++ x.e)).length = P.length + ([1#8, 8#8, 0#8, 0#8] : List (BitVec 8)).length + (x.e).length by simp only [List.length_append]; omega]
          exact h⟩, B6.out⟩
        case measure => simp [intOf]
    · have e : ((1 : Nat) : Int) = 1 := rfl
      rw [e]; clear e
      obtain ⟨b, hb⟩ : ∃ b, (x.g).any nonzero = b := ⟨_, rfl⟩
      have HB := Lib.hid hb
      have V := Lib.hid (FG.out _ BXr.out)
      cases b
      · have HN := Lib.hid (idsO_next x 1 [] (by rw [show (idsL x)[1]? = some (idPart 1 x.g) from rfl]; unfold idPart; rw [hb]; rfl))
        clear hb
        go_wp2_with (first | (refine wpList_index4 rfl (.tmp 15) (.tmp 16) rfl (.slice (some ⟨w.heap.size, 0, none⟩) 8 8) (.slice (some ⟨w.heap.size, 8, none⟩) 16 16) (.slice (some ⟨w.heap.size, 24, none⟩) 16 16) (.slice (some ⟨W1.heap.size, 0, none⟩) 1 1) rfl 1 rfl (.slice (some ⟨w.heap.size, 8, none⟩) 16 16) (by simp) ?_) | (go_at_call 97; go_loud (refine (contains_ids _ x.g false _ V.out HB.out).mono ?_; rintro r w' ⟨rfl, rfl⟩)))
        go_roundw
        case rel => exact ⟨2, by omega, by go_num, ⟨P, Lib.hid (by rw [HN.out, List.append_nil]; exact hP.out), O.out⟩, B.out⟩
        case measure => simp [intOf]
      · have hlen := HX.out
        have HN := Lib.hid (idsO_next x 1 ([2#8, 16#8, 0#8, 0#8] ++ x.g) (by rw [show (idsL x)[1]? = some (idPart 1 x.g) from rfl]; unfold idPart; rw [hb, if_pos rfl, hlen.2.1]))
        clear hb hlen
        go_upto_region 8 with (first | (refine wpList_index4 rfl (.tmp 15) (.tmp 16) rfl (.slice (some ⟨w.heap.size, 0, none⟩) 8 8) (.slice (some ⟨w.heap.size, 8, none⟩) 16 16) (.slice (some ⟨w.heap.size, 24, none⟩) 16 16) (.slice (some ⟨W1.heap.size, 0, none⟩) 1 1) rfl 1 rfl (.slice (some ⟨w.heap.size, 8, none⟩) 16 16) (by simp) ?_) | (go_at_call 97; go_loud (refine (contains_ids _ x.g true _ V.out HB.out).mono ?_; rintro r w' ⟨rfl, rfl⟩)))
        have G4 := Lib.hid (gr_alloc wr (.cells #[.int .u8 (uv 2#8), .int .u8 (uv 16#8), .int .u8 0, .int .u8 0] 5))
        have L4 := Lib.hid (show BytesV (wr.alloc (.cells #[.int .u8 (uv 2#8), .int .u8 (uv 16#8), .int .u8 0, .int .u8 0] 5)) (.slice (some ⟨wr.heap.size, 0, none⟩) 4 4) [2#8, 16#8, 0#8, 0#8] from ⟨_, _, rfl, by simp, Nat.le_refl _, by simp, Row.lit wr #[.int .u8 (uv 2#8), .int .u8 (uv 16#8), .int .u8 0, .int .u8 0] 5 (0, 0)⟩)
        have VV := Lib.hid (show BytesV (wr.alloc (.cells #[.int .u8 (uv 2#8), .int .u8 (uv 16#8), .int .u8 0, .int .u8 0] 5)) (.slice (some ⟨w.heap.size, 8, none⟩) 16 16) x.g from V.out.below (gr_alloc wr _))
        have LN := Lib.hid (show (x.g).length ≤ 16 by have := HX.out; unfold Idn.Ids.Ok at this; first | (simp; done) | omega)
        go_wp2_with (first
          | (at_builtin; refine app_more rfl (.tmp 29) (.tmp 36) rfl _ WY.heap.size P.length P rfl (own_below O.out G4.out) (Nat.le_trans B.out.size G4.out.size) (.slice (some ⟨wr.heap.size, 0, none⟩) 4 4) [2#8, 16#8, 0#8, 0#8] rfl L4.out (by have := HPL.out; simp; omega) ?_; intro v1 w5 ho hg hb; have O1 := Lib.hid ho; have B5 := Lib.hid ((B.out.trans (G4.out.mono B.out.size)).trans hb); have V5 := Lib.hid (show BytesV w5 (.slice (some ⟨w.heap.size, 8, none⟩) 16 16) x.g from VV.out.chg (Chg.of_grown (B := fun b => (_ : Value).ownBlock = some b) hg (fun k hk => hk)) (fun g o n c e h => by cases e; have := (O.out.lt _ h).1; have := (Array.getElem?_eq_some_iff.1 BY.out).1; omega)); clear ho hg hb)
          | (at_builtin; refine app_more rfl (.tmp 37) (.tmp 38) rfl v1 WY.heap.size _ (P ++ [2#8, 16#8, 0#8, 0#8]) rfl O1.out B5.out.size (.slice (some ⟨w.heap.size, 8, none⟩) 16 16) x.g rfl V5.out (by have := HPL.out; have := LN.out; simp; omega) ?_; intro v2 w6 ho hg hb; have O2 := Lib.hid ho; have B6 := Lib.hid (B5.out.trans hb); clear ho hg hb))
        go_roundw
        case rel => exact ⟨2, by omega, by go_num, ⟨P ++ ([2#8, 16#8, 0#8, 0#8] ++ x.g), Lib.hid (by rw [HN.out, hP.out]), by
          have h := O2.out
          rw [List.append_assoc] at h
          rw [show (P ++ ([2#8, 16#8, 0#8, 0#8] ++ x.g)).length = P.length + ([2#8, 16#8, 0#8, 0#8] : List (BitVec 8)).length + (x.g).length by simp only [List.length_append]; omega]
          exact h⟩, B6.out⟩
        case measure => simp [intOf]
    · have e : ((2 : Nat) : Int) = 2 := rfl
      rw [e]; clear e
      obtain ⟨b, hb⟩ : ∃ b, (x.u).any nonzero = b := ⟨_, rfl⟩
      have HB := Lib.hid hb
      have V := Lib.hid (FU.out _ BXr.out)
      cases b
      · have HN := Lib.hid (idsO_next x 2 [] (by rw [show (idsL x)[2]? = some (idPart 2 x.u) from rfl]; unfold idPart; rw [hb]; rfl))
        clear hb
        go_wp2_with (first | (refine wpList_index4 rfl (.tmp 15) (.tmp 16) rfl (.slice (some ⟨w.heap.size, 0, none⟩) 8 8) (.slice (some ⟨w.heap.size, 8, none⟩) 16 16) (.slice (some ⟨w.heap.size, 24, none⟩) 16 16) (.slice (some ⟨W1.heap.size, 0, none⟩) 1 1) rfl 2 rfl (.slice (some ⟨w.heap.size, 24, none⟩) 16 16) (by simp) ?_) | (go_at_call 97; go_loud (refine (contains_ids _ x.u false _ V.out HB.out).mono ?_; rintro r w' ⟨rfl, rfl⟩)))
        go_roundw
        case rel => exact ⟨3, by omega, by go_num, ⟨P, Lib.hid (by rw [HN.out, List.append_nil]; exact hP.out), O.out⟩, B.out⟩
        case measure => simp [intOf]
      · have hlen := HX.out
        have HN := Lib.hid (idsO_next x 2 ([3#8, 16#8, 0#8, 0#8] ++ x.u) (by rw [show (idsL x)[2]? = some (idPart 2 x.u) from rfl]; unfold idPart; rw [hb, if_pos rfl, hlen.2.2]))
        clear hb hlen
        go_upto_region 8 with (first | (refine wpList_index4 rfl (.tmp 15) (.tmp 16) rfl (.slice (some ⟨w.heap.size, 0, none⟩) 8 8) (.slice (some ⟨w.heap.size, 8, none⟩) 16 16) (.slice (some ⟨w.heap.size, 24, none⟩) 16 16) (.slice (some ⟨W1.heap.size, 0, none⟩) 1 1) rfl 2 rfl (.slice (some ⟨w.heap.size, 24, none⟩) 16 16) (by simp) ?_) | (go_at_call 97; go_loud (refine (contains_ids _ x.u true _ V.out HB.out).mono ?_; rintro r w' ⟨rfl, rfl⟩)))
        have G4 := Lib.hid (gr_alloc wr (.cells #[.int .u8 (uv 3#8), .int .u8 (uv 16#8), .int .u8 0, .int .u8 0] 5))
        have L4 := Lib.hid (show BytesV (wr.alloc (.cells #[.int .u8 (uv 3#8), .int .u8 (uv 16#8), .int .u8 0, .int .u8 0] 5)) (.slice (some ⟨wr.heap.size, 0, none⟩) 4 4) [3#8, 16#8, 0#8, 0#8] from ⟨_, _, rfl, by simp, Nat.le_refl _, by simp, Row.lit wr #[.int .u8 (uv 3#8), .int .u8 (uv 16#8), .int .u8 0, .int .u8 0] 5 (0, 0)⟩)
        have VV := Lib.hid (show BytesV (wr.alloc (.cells #[.int .u8 (uv 3#8), .int .u8 (uv 16#8), .int .u8 0, .int .u8 0] 5)) (.slice (some ⟨w.heap.size, 24, none⟩) 16 16) x.u from V.out.below (gr_alloc wr _))
        have LN := Lib.hid (show (x.u).length ≤ 16 by have := HX.out; unfold Idn.Ids.Ok at this; first | (simp; done) | omega)
        go_wp2_with (first
          | (at_builtin; refine app_more rfl (.tmp 29) (.tmp 36) rfl _ WY.heap.size P.length P rfl (own_below O.out G4.out) (Nat.le_trans B.out.size G4.out.size) (.slice (some ⟨wr.heap.size, 0, none⟩) 4 4) [3#8, 16#8, 0#8, 0#8] rfl L4.out (by have := HPL.out; simp; omega) ?_; intro v1 w5 ho hg hb; have O1 := Lib.hid ho; have B5 := Lib.hid ((B.out.trans (G4.out.mono B.out.size)).trans hb); have V5 := Lib.hid (show BytesV w5 (.slice (some ⟨w.heap.size, 24, none⟩) 16 16) x.u from VV.out.chg (Chg.of_grown (B := fun b => (_ : Value).ownBlock = some b) hg (fun k hk => hk)) (fun g o n c e h => by cases e; have := (O.out.lt _ h).1; have := (Array.getElem?_eq_some_iff.1 BY.out).1; omega)); clear ho hg hb)
          | (at_builtin; refine app_more rfl (.tmp 37) (.tmp 38) rfl v1 WY.heap.size _ (P ++ [3#8, 16#8, 0#8, 0#8]) rfl O1.out B5.out.size (.slice (some ⟨w.heap.size, 24, none⟩) 16 16) x.u rfl V5.out (by have := HPL.out; have := LN.out; simp; omega) ?_; intro v2 w6 ho hg hb; have O2 := Lib.hid ho; have B6 := Lib.hid (B5.out.trans hb); clear ho hg hb))
        go_roundw
        case rel => exact ⟨3, by omega, by go_num, ⟨P ++ ([3#8, 16#8, 0#8, 0#8] ++ x.u), Lib.hid (by rw [HN.out, hP.out]), by
          have h := O2.out
          rw [List.append_assoc] at h
          rw [show (P ++ ([3#8, 16#8, 0#8, 0#8] ++ x.u)).length = P.length + ([3#8, 16#8, 0#8, 0#8] : List (BitVec 8)).length + (x.u).length by simp only [List.length_append]; omega]
          exact h⟩, B6.out⟩
        case measure => simp [intOf]
    · have e : ((3 : Nat) : Int) = 3 := rfl
      rw [e]; clear e
      obtain ⟨b, hb⟩ : ∃ b, ([x.set]).any nonzero = b := ⟨_, rfl⟩
      have HB := Lib.hid hb
      have V := Lib.hid (lit_at BYr.out)
      have c40 := (cell_of_row _ _ 40 _ _ _ BXr.out).trans F40.out
      cases b
      · have HN := Lib.hid (idsO_next x 3 [] (by rw [show (idsL x)[3]? = some (if nonzero x.set then [4#8, 1#8, 0#8, 0#8, x.set - 1#8] else []) from rfl]; (have h2 : nonzero x.set = false := (by simpa using hb)); rw [h2]; rfl))
        clear hb
        go_wp2_with (first | (refine wpList_index4 rfl (.tmp 15) (.tmp 16) rfl (.slice (some ⟨w.heap.size, 0, none⟩) 8 8) (.slice (some ⟨w.heap.size, 8, none⟩) 16 16) (.slice (some ⟨w.heap.size, 24, none⟩) 16 16) (.slice (some ⟨W1.heap.size, 0, none⟩) 1 1) rfl 3 rfl (.slice (some ⟨W1.heap.size, 0, none⟩) 1 1) (by simp) ?_) | (go_at_call 97; go_loud (refine (contains_ids _ [x.set] false _ V.out HB.out).mono ?_; rintro r w' ⟨rfl, rfl⟩)))
        go_roundw
        case rel => exact ⟨4, by omega, by go_num, ⟨P, Lib.hid (by rw [HN.out, List.append_nil]; exact hP.out), O.out⟩, B.out⟩
        case measure => simp [intOf]
      · have hlen := HX.out
        have HN := Lib.hid (idsO_next x 3 ([4#8, 1#8, 0#8, 0#8] ++ [x.set - 1#8]) (by rw [show (idsL x)[3]? = some (if nonzero x.set then [4#8, 1#8, 0#8, 0#8, x.set - 1#8] else []) from rfl]; (have h2 : nonzero x.set = true := (by simpa using hb)); rw [h2]; rfl))
        clear hb hlen
        go_upto_region 8 with (first | (refine wpList_index4 rfl (.tmp 15) (.tmp 16) rfl (.slice (some ⟨w.heap.size, 0, none⟩) 8 8) (.slice (some ⟨w.heap.size, 8, none⟩) 16 16) (.slice (some ⟨w.heap.size, 24, none⟩) 16 16) (.slice (some ⟨W1.heap.size, 0, none⟩) 1 1) rfl 3 rfl (.slice (some ⟨W1.heap.size, 0, none⟩) 1 1) (by simp) ?_) | (go_at_call 97; go_loud (refine (contains_ids _ [x.set] true _ V.out HB.out).mono ?_; rintro r w' ⟨rfl, rfl⟩)))
        have G4 := Lib.hid (gr_tr (gr_alloc wr (.cells #[.int .u8 (uv (x.set - 1#8))] 5)) (gr_alloc _ (.cells #[.int .u8 (uv 4#8), .int .u8 (uv 1#8), .int .u8 0, .int .u8 0] 5)))
        have L4 := Lib.hid (show BytesV ((wr.alloc (.cells #[.int .u8 (uv (x.set - 1#8))] 5)).alloc (.cells #[.int .u8 (uv 4#8), .int .u8 (uv 1#8), .int .u8 0, .int .u8 0] 5)) (.slice (some ⟨(wr.heap.size + 1), 0, none⟩) 4 4) [4#8, 1#8, 0#8, 0#8] from by rw [← World.size_alloc wr (.cells #[.int .u8 (uv (x.set - 1#8))] 5)]; exact ⟨_, _, rfl, by simp, Nat.le_refl _, by simp, Row.lit _ #[.int .u8 (uv 4#8), .int .u8 (uv 1#8), .int .u8 0, .int .u8 0] 5 (0, 0)⟩)
        have VV := Lib.hid (show BytesV ((wr.alloc (.cells #[.int .u8 (uv (x.set - 1#8))] 5)).alloc (.cells #[.int .u8 (uv 4#8), .int .u8 (uv 1#8), .int .u8 0, .int .u8 0] 5)) (.slice (some ⟨wr.heap.size, 0, none⟩) 1 1) [x.set - 1#8] from (lit_at (heap_alloc_new wr _)).below (gr_alloc _ _))
        have LN := Lib.hid (show ([x.set - 1#8]).length ≤ 16 by have := HX.out; unfold Idn.Ids.Ok at this; first | (simp; done) | omega)
        go_wp2_with (first
          | (at_builtin; refine app_more rfl (.tmp 29) (.tmp 36) rfl _ WY.heap.size P.length P rfl (own_below O.out G4.out) (Nat.le_trans B.out.size G4.out.size) (.slice (some ⟨(wr.heap.size + 1), 0, none⟩) 4 4) [4#8, 1#8, 0#8, 0#8] rfl L4.out (by have := HPL.out; simp; omega) ?_; intro v1 w5 ho hg hb; have O1 := Lib.hid ho; have B5 := Lib.hid ((B.out.trans (G4.out.mono B.out.size)).trans hb); have V5 := Lib.hid (show BytesV w5 (.slice (some ⟨wr.heap.size, 0, none⟩) 1 1) [x.set - 1#8] from VV.out.chg (Chg.of_grown (B := fun b => (_ : Value).ownBlock = some b) hg (fun k hk => hk)) (fun g o n c e h => by cases e; have := (O.out.lt _ h).2; omega)); clear ho hg hb)
          | (at_builtin; refine app_more rfl (.tmp 37) (.tmp 38) rfl v1 WY.heap.size _ (P ++ [4#8, 1#8, 0#8, 0#8]) rfl O1.out B5.out.size (.slice (some ⟨wr.heap.size, 0, none⟩) 1 1) [x.set - 1#8] rfl V5.out (by have := HPL.out; have := LN.out; simp; omega) ?_; intro v2 w6 ho hg hb; have O2 := Lib.hid ho; have B6 := Lib.hid (B5.out.trans hb); clear ho hg hb))
        go_roundw
        case rel => exact ⟨4, by omega, by go_num, ⟨P ++ ([4#8, 1#8, 0#8, 0#8] ++ [x.set - 1#8]), Lib.hid (by rw [HN.out, hP.out]), by
          have h := O2.out
          rw [List.append_assoc] at h
          rw [show (P ++ ([4#8, 1#8, 0#8, 0#8] ++ [x.set - 1#8])).length = P.length + ([4#8, 1#8, 0#8, 0#8] : List (BitVec 8)).length + ([x.set - 1#8]).length by simp only [List.length_append]; omega]
          exact h⟩, B6.out⟩
        case measure => simp [intOf]
    · have e : ((4 : Nat) : Int) = 4 := rfl
      rw [e]; clear e
      have hPl : P.length ≤ 57 := HPL.out
      have h4 : ((4096 - P.length : Nat) : Int) = 4096 - (P.length : Int) := by omega
      obtain ⟨N, hN⟩ : ∃ N, 4096 - P.length = N := ⟨_, rfl⟩
      rw [hN] at h4
      have hNi : (4096 : Int) - (P.length : Int) = (N : Int) := h4.symm
      have HN := Lib.hid hN
      have HNP := Lib.hid (show 0 < N by omega)
      have ws : IntKind.i64.wrap (4096 - (P.length : Int)) = (N : Int) := by rw [← h4]; unfold IntKind.wrap; simp [IntKind.bits, IntKind.signed]; omega
      clear hN h4
      obtain ⟨oa, oc, rfl⟩ : ∃ a c, _ = Value.slice a P.length c := by obtain ⟨a, c, h, _⟩ := BytesV.of_own O.out; exact ⟨_, _, h⟩
      go_wp2_with (at_builtin; refine app_zeros rfl (.tmp 41) (.tmp 44) rfl _ WY.heap.size P rfl O.out B.out.size N rfl HNP.out (by have := HPL.out; have := HN.out; omega) ?_; intro v1 w5 ho hb; have O1 := Lib.hid ho; have B5 := Lib.hid hb; clear ho hb)
      go_ret
      refine ⟨_, rfl, ?_, gr_tr DY.out (B.out.trans B5.out)⟩
      have h := BytesV.of_own O1.out
      unfold idsB
      rw [hP.out, HN.out]
      exact h
end Go.Proofs.YthnnopjakpjoeaaDoor
