/- identify.texts and identify.EncodeController. Printed by genide.py. -/
import Derived.Test.YthnnopjakpjoeaaDoorIdC
import Derived.Test.YthnnopjakpjoeaaDoorRef24C
namespace Go.Proofs.YthnnopjakpjoeaaDoor
open Go.RowKit Idn
set_option linter.unusedVariables false
set_option linter.unusedSimpArgs false
theorem Keep.chg {B C : Nat → Prop} {w x x' : World} (h : Keep B w x) (c : Chg C x x') (hr : ∀ k, C k → B k ∨ w.heap.size ≤ k) : Keep B w x' := by
  obtain ⟨y, rfl⟩ := h
  refine ⟨⟨x', Nat.le_trans y.size c.size, fun k hk hn => ?_⟩, rfl⟩
  refine (c.block k (Nat.lt_of_lt_of_le hk y.size) (fun e => ?_)).trans (y.block k hk hn)
  rcases hr k e with h | h
  · exact hn h
  · omega
def txtCells (X : Nat) : Array Value := #[.pointer (some ⟨X, 22, none⟩), .int .i64 4, .int .i64 20, .int .i64 20, .pointer (some ⟨X, 23, none⟩), .int .i64 24, .int .i64 40, .int .i64 40, .pointer (some ⟨X, 24, none⟩), .int .i64 64, .int .i64 8, .int .i64 8, .pointer (some ⟨X, 25, none⟩), .int .i64 768, .int .i64 256, .int .i64 223]
set_option maxHeartbeats 1600000 in
set_option maxRecDepth 20000 in
theorem texts_any (X : Nat) (w : World) :
    Calls Tryd.prog 75 #[.pointer (some ⟨X, 0, none⟩)] w fun e w' => e = .returned (.agg (txtCells X)) ∧ Below w.heap.size w w' := by
  go_enter Tryd.func75, Tryd.ntmps75
  go_upto_region 1 with (fail)
  refine wp_region_planW (fun b => b = w.heap.size) [(true, 0), (true, 1), (true, 2), (true, 3), (true, 4), (true, 5), (true, 6), (true, 7), (true, 8), (true, 9), (true, 10), (true, 11), (true, 12), (true, 13), (true, 14), (true, 15), (true, 16), (false, 17)] (by kernel_rfl) (by kernel_rfl) (by intro c a d v w h; cases d <;> exact h) ?_
  intro W1 K C1
  repeat (refine wpS_firm rfl (fun K hK => ?_); simp only [Keep]; go_simp; refine hK _ ?_; clear hK K)
  have HO := Lib.hid (blk_below (heap_alloc_new w _) C1.out)
  have D := Lib.hid (gr_tr (gr_alloc w _) C1.out)
  refine wpS_chain rfl ?_
  go_wp2_with (go_loud (refine wpList_store_row rfl 157 (.tmp 2) (.tmp 19) rfl w.heap.size (txtCells X) rfl rfl 157 _ HO.out (by kernel_rfl) (by rfl) (by simp [txtCells, Value.oneCell']) ?_))
  refine ⟨K.out.chg (Chg.setRow (B := fun b => b = w.heap.size) W1 rfl _) (fun k hk => .inl hk), ?_⟩
  unfold wpS
  go_wp2
  exact bodyPost_ret (v := .agg (txtCells X)) (results_cell_row rfl _ _ w.heap.size 157 _ (0, 0) _ rfl (setRow_heap _ _ _ _ _ _ HO.out) Tryd.underlying157 rfl (by kernel_rfl)) rfl ⟨rfl, below_setRow D.out (Nat.le_refl _) _⟩
set_option maxRecDepth 20000 in
theorem wpList_index_txt {ops : Array Oper} {rest : List Oper} {op : Oper} {a : Act} {w : World} {Q : Exit → Act → World → Prop} (hgd : op.guard = none) (x i : Operand) (ho : op.op = .index 157 x i) (X : Nat)
    (hx : a.eval x = .agg (txtCells X)) (k : Int) (hi : a.eval i = .int .i64 k) (v : Array Value)
    (hv : (k = 0 ∧ v = #[.pointer (some ⟨X, 22, none⟩), .int .i64 4, .int .i64 20, .int .i64 20]) ∨ (k = 1 ∧ v = #[.pointer (some ⟨X, 23, none⟩), .int .i64 24, .int .i64 40, .int .i64 40]) ∨ (k = 2 ∧ v = #[.pointer (some ⟨X, 24, none⟩), .int .i64 64, .int .i64 8, .int .i64 8]) ∨ (k = 3 ∧ v = #[.pointer (some ⟨X, 25, none⟩), .int .i64 768, .int .i64 256, .int .i64 223]))
    (h : wpList Tryd.prog ops Q rest (a.put op.dst (.agg v)) w) : wpList Tryd.prog ops Q (op :: rest) a w := by
  refine wpList_plain hgd fun _ hK => ?_
  have hr : (Instr.index 157 (.agg (txtCells X)) (.int .i64 k)).run Tryd.prog w = .ok (.agg v) w := by
    rcases hv with ⟨rfl, rfl⟩ | ⟨rfl, rfl⟩ | ⟨rfl, rfl⟩ | ⟨rfl, rfl⟩ <;> rfl
  unfold Oper.wp execOp
  simp only [ho, hx, hi, Sem.run_bind, Sem.run_pure, Result.andThen_ok, hr]
  exact hK _ _ h
theorem suffix_last (s : List (BitVec 8)) : Lib.hasSuffix (strOf s).data.toList (⟨#[32]⟩ : ByteArray).data.toList = (s.getLast? == some 32#8) := by
  have h : (strOf s).data.toList = s.map UInt8.ofBitVec := rfl
  rw [h]
  show List.isSuffixOf [32] _ = _
  unfold List.isSuffixOf
  rw [← List.map_reverse, ← List.head?_reverse]
  cases s.reverse with
  | nil => rfl
  | cons y r =>
    show ((32 : UInt8) == UInt8.ofBitVec y && true) = (y == 32#8)
    rw [Bool.and_true, Bool.beq_comm, Wire.ofBitVec_beq]
theorem zip_cells (ps : List Pl) (vs : List (BitVec 64)) (h : ps.length = vs.length) : (ps.zip vs).flatMap plC = ps.flatMap Pl.cells := by
  induction ps generalizing vs with
  | nil => rfl
  | cons p ps ih =>
    cases vs with
    | nil => simp at h
    | cons v vs => rw [List.zip_cons_cons, List.flatMap_cons, List.flatMap_cons, ih vs (by simpa using h)]; rfl
theorem SliceV.zip {w : World} {pv : Value} {ps : List Pl} (vs : List (BitVec 64)) (hl : ps.length = vs.length) (h : SliceV w Pl.cells pv ps) : SliceV w plC pv (ps.zip vs) := by
  obtain ⟨a, c, e, h0, h1, h2, h3⟩ := h
  have : (ps.zip vs).length = ps.length := by rw [List.length_zip, ← hl]; omega
  exact ⟨a, c, by rw [this]; exact e, h0, by rw [this]; exact h1, h2, by rw [zip_cells ps vs hl]; exact h3⟩
theorem zip_key (ps : List Pl) (sp : Idn.Spec) (vs : List (BitVec 64)) (h : ps.map key = sp) : (ps.zip vs).map plB = fsOf sp vs := by
  subst h
  unfold fsOf
  induction ps generalizing vs with
  | nil => rfl
  | cons p ps ih =>
    cases vs with
    | nil => rfl
    | cons v vs => rw [List.zip_cons_cons, List.map_cons, List.map_cons, List.zip_cons_cons, List.map_cons, ih vs]; rfl
theorem zip_has {w : World} {base X g : Nat} {ps : List Pl} {sp : Idn.Spec} {vs : List (BitVec 64)} {cs : Array Value} {T : TypeId} (h : ps.map key = sp) (hp : PsOk w base X ps) (hb : w.heap[X]? = some (.cells cs T (0, 0))) (hf : ∀ p ∈ sp.zip vs, Fits cs.toList p) (hX : X ≠ g) (hg : g < base) :
    ∀ q ∈ ps.zip vs, Has w g q := by
  intro q hq
  obtain ⟨p, v⟩ := q
  have hm : (key p, v) ∈ sp.zip vs := by
    rw [← h]
    have := List.mem_map_of_mem (f := fun q : Pl × BitVec 64 => (key q.1, q.2)) hq
    rw [show (ps.map key).zip vs = (ps.zip vs).map (fun q => (key q.1, q.2)) by rw [List.zip_map_left]; rfl]
    exact this
  obtain ⟨h1, h2, h3⟩ := hf _ hm
  obtain ⟨a1, a2, a3⟩ := hp p (List.of_mem_zip hq).1
  refine ⟨a1, ?_, h2, (show p.box ≠ g by omega), by rw [a3]; exact hX, h3⟩
  show w.cell? ⟨p.X, p.o, none⟩ = _
  rw [a3, cell_of_row w X p.o cs T (0, 0) hb]
  have h4 : cs.toList[p.o]? = some (p.k.val v) := h1
  simpa using h4
/-- 'copy(own[p:], x)', x empty or not. -/
theorem copy_at0 {ops : Array Oper} {rest : List Oper} {o : Oper} {a : Act} {Q : Exit → Act → World → Prop} {W : World} (hgd : o.guard = none) (d s : Operand) (ho : o.op = .call { callee := .builtin .copy, args := #[d, s], argTypes := #[22, 22] })
    (base g p : Nat) (k l : List (BitVec 8)) (hd : a.eval d = .slice (some ⟨g, p, none⟩) (4096 - p) (4096 - p)) (v : Value) (hs : a.eval s = v) (hown : Own4 W base g 4096 k) (hv : BytesV W v l) (hl : p + l.length ≤ 4096)
    (h : ∀ w', Own4 w' base g 4096 (Lay.lay k p l) → W.grownBy w' (some g) → wpList Tryd.prog ops Q rest (a.put o.dst (goInt l.length)) w') : wpList Tryd.prog ops Q (o :: rest) a W := by
  by_cases h0 : l = []
  · subst h0
    obtain ⟨av, cv, rfl, n1, n2, n3, n4⟩ := hv
    refine wpList_copy_nothing hgd d s _ _ ho 5 Tryd.underlying22 bszU (some ⟨g, p, none⟩) av (4096 - p) (4096 - p) 0 cv hd hs (by simp) ?_
    exact h W (by rw [Lay.lay_nil]; exact hown) (World.grownBy.refl _ _)
  · exact copy_at hgd d s ho base g 4096 4096 p k l hd v hs hown hv hl (List.length_pos_iff.2 h0) h
namespace Idn
theorem nameOk_pad (s : List (BitVec 8)) (most : Nat) (hm : most ≤ 1048576) : nameOk s most = (Wire.padE s most == 0 && !(s.getLast? == some 32#8)) := by
  unfold nameOk Wire.padE
  cases hp : Wire.plain s
  · simp
  · by_cases h : s.length ≤ most
    · have h1 : ¬ ((s.length : Int) > most ∨ (most : Int) > 1048576) := by omega
      have h0 : ¬ ((most : Int) < 0 ∨ true = false) := by simp
      rw [if_neg h0, if_neg h1, decide_eq_true h]; rfl
    · have h1 : ((s.length : Int) > most ∨ (most : Int) > 1048576) := by omega
      have h0 : ¬ ((most : Int) < 0 ∨ true = false) := by simp
      rw [if_neg h0, if_pos h1, decide_eq_false h]; rfl
theorem pad_ok {s : List (BitVec 8)} {most : Nat} (h : Wire.padE s most = 0) : Wire.pad s most = fill s most 32#8 := by
  unfold Wire.pad; rw [if_pos h, Int.toNat_natCast]; rfl
theorem padE_len {s : List (BitVec 8)} {most : Nat} (h : Wire.padE s most = 0) : s.length ≤ most := by
  unfold Wire.padE at h
  split at h
  · cases h
  · split at h
    · cases h
    · omega
/-- The first k texts are good. -/
def txtOk (x : Ctl) (k : Nat) : Prop := (0 < k → nameOk x.serial 20 = true) ∧ (1 < k → nameOk x.model 40 = true) ∧ (2 < k → nameOk x.revision 8 = true) ∧ (3 < k → nameOk x.name 223 = true)
theorem txtOk_all {x : Ctl} (h : txtOk x 4) : ctlOk x = true := by
  obtain ⟨h1, h2, h3, h4⟩ := h
  unfold ctlOk; rw [h1 (by omega), h2 (by omega), h3 (by omega), h4 (by omega)]; rfl
end Idn
set_option maxHeartbeats 6400000 in
set_option maxRecDepth 100000 in
theorem EncC_at (x : Ctl) (w : World) (hlen : x.serial.length ≤ 300 ∧ x.model.length ≤ 300 ∧ x.revision.length ≤ 300 ∧ x.name.length ≤ 300) :
    Calls Tryd.prog 32 #[.agg (Ctl.cells x).toArray] w fun e w' => ∃ u, e = .returned (.tuple #[u, .int .i64 (ctlE x)]) ∧ BytesV w' u (ctlR x) ∧ Below w.heap.size w w' := by
  have HLEN := Lib.hid hlen; clear hlen
  obtain ⟨L0, hL0⟩ : ∃ L, Lay.lays zeros (ctlFs x) = L := ⟨_, rfl⟩
  have HL0 := Lib.hid hL0; clear hL0
  obtain ⟨W, hW⟩ : ∃ W, W = w.alloc (.cells (Ctl.cells x).toArray 38) := ⟨_, rfl⟩
  have BX := Lib.hid (show W.heap[w.heap.size]? = some (.cells (Ctl.cells x).toArray 38 (0, 0)) by rw [hW]; exact heap_alloc_new w _)
  have D := Lib.hid (show Below w.heap.size w W by rw [hW]; exact gr_alloc w _)
  have HS := Lib.hid (show w.heap.size < W.heap.size by rw [hW]; simp)
  have HW := Lib.hid hW; clear hW
  have FT := Lib.hid (ctl_fits x)
  obtain ⟨cs, hcs⟩ : ∃ cs, (Ctl.cells x).toArray = cs := ⟨_, rfl⟩
  have FC := Lib.hid (show ∀ p ∈ ctlSpec.zip (ctlV x), Fits cs.toList p by rw [← hcs]; exact FT.out)
  have F22 := Lib.hid (show cs[22]? = some (.string (strOf x.serial)) by rw [← hcs]; rfl)
  have F23 := Lib.hid (show cs[23]? = some (.string (strOf x.model)) by rw [← hcs]; rfl)
  have F24 := Lib.hid (show cs[24]? = some (.string (strOf x.revision)) by rw [← hcs]; rfl)
  have F25 := Lib.hid (show cs[25]? = some (.string (strOf x.name)) by rw [← hcs]; rfl)
  rw [hcs] at BX HW ⊢
  clear hcs FT
  go_enter Tryd.func32, Tryd.ntmps32
  go_upto_region 1 with (fail)
  rw [← HW.out]
  go_upto_region 4 with (first
    | (refine make_law bytesOk rfl _ _ rfl W.heap.size .i64 .i64 4096 4096 4096 rfl rfl rfl rfl (by omega) (by omega) (Nat.le_refl _) ?_; intro w2 hown hgrow; have O := Lib.hid (show Own4 w2 W.heap.size W.heap.size 4096 zeros by have h := hown; rw [by8_made] at h; exact h); have D2 := Lib.hid ((Below.refl W.heap.size W).grown hgrow (Nat.le_refl _) (by intro k hk; cases hk)); replace BX := Lib.hid (blk_below BX.out D2.out); replace D := Lib.hid (gr_tr D.out D2.out); clear hgrow hown)
    | (go_at_call 74; go_loud (refine (controller_any w.heap.size _).mono ?_; rintro r w3 ⟨pv, ps, rfl, hsv, hkey, hps, hnv, hw⟩; have SV := Lib.hid hsv; have KEY := Lib.hid hkey; have PS := Lib.hid hps; have NV := Lib.hid hnv; have O3 := Lib.hid (O.out.below hw); replace BX := Lib.hid (blk_below BX.out hw); replace D := Lib.hid (gr_tr D.out hw); clear hsv hkey hps hnv hw))
    | (go_at_call 84; go_loud (have hlen : ps.length = (ctlV x).length := (by have := congrArg List.length KEY.out; rw [List.length_map] at this; rw [this]; rfl); refine (store_any W.heap.size 4096 W.heap.size zeros pv (ps.zip (ctlV x)) _ O3.out (SV.out.zip (ctlV x) hlen) (fun g o n c e h => by have := NV.out g o n c e; have := O.out.lt.2; omega) (zip_has KEY.out PS.out BX.out FC.out (by have := HS.out; omega) O.out.lt.2)).mono ?_; rw [zip_key ps ctlSpec (ctlV x) KEY.out]; rintro r w4 ⟨rfl, ho, hc⟩; have O4 := Lib.hid (show Own4 w4 W.heap.size W.heap.size 4096 L0 by rw [← HL0.out]; exact ho); replace BX := Lib.hid (hc.blk BX.out (by have := HS.out; omega)); replace D := Lib.hid (hc.fresh D.out (fun k hk => by have := HS.out; omega)); clear ho hc hlen))
    | (go_at_call 75; go_loud (refine (texts_any w.heap.size _).mono ?_; rintro r w5 ⟨rfl, hw⟩; have O5 := Lib.hid (O4.out.below hw); replace BX := Lib.hid (blk_below BX.out hw); replace D := Lib.hid (gr_tr D.out hw); clear hw)))
  go_loopw [14] (fun i wr => ∃ k : Nat, k ≤ 4 ∧ i = .int .i64 k ∧ Own4 wr W.heap.size W.heap.size 4096 (Lay.lays L0 ((ctlTs x).take k)) ∧ Hid (txtOk x k) ∧ wr.heap[w.heap.size]? = some (.cells cs 38 (0, 0)) ∧ Below w.heap.size w wr) (fun i _ => 4 - (intOf i).toNat)
  case atStart => exact ⟨0, by omega, rfl, by rw [List.take_zero, Lay.lays_nil]; exact O5.out, Lib.hid ⟨fun h => absurd h (by omega), fun h => absurd h (by omega), fun h => absurd h (by omega), fun h => absurd h (by omega)⟩, BX.out, D.out⟩
  case round =>
    clear BX D O O3 O4 O5 SV KEY PS NV D2
    obtain ⟨k, hk, rfl, ho, hok, hbx, hd⟩ := hrel
    have O := Lib.hid ho; have BX := Lib.hid hbx; have D := Lib.hid hd; clear ho hbx hd
    have hk5 : k = 0 ∨ k = 1 ∨ k = 2 ∨ k = 3 ∨ k = 4 := by omega
    rcases hk5 with rfl | rfl | rfl | rfl | rfl
    · have e : ((0 : Nat) : Int) = 0 := rfl
      rw [e]; clear e
      have cX := (cell_of_row _ _ 22 _ _ _ BX.out).trans F22.out
      obtain ⟨e, he⟩ : ∃ e, Wire.padE x.serial (20 : Nat) = e := ⟨_, rfl⟩
      obtain ⟨b, hb⟩ : ∃ b, Wire.pad x.serial (20 : Nat) = b := ⟨_, rfl⟩
      have hno := nameOk_pad x.serial 20 (by decide)
      rw [he] at hno
      have HE := Lib.hid he; have HB := Lib.hid hb; have HNO := Lib.hid hno
      clear he hb hno
      go_upto_region 6 with (first
        | (refine wpList_index_txt rfl (.tmp 13) (.tmp 14) rfl w.heap.size rfl 0 rfl #[.pointer (some ⟨w.heap.size, 22, none⟩), .int .i64 4, .int .i64 20, .int .i64 20] (by simp) ?_)
        | (refine wpList_store_new rfl 156 (.tmp 6) (.tmp 16) rfl #[.pointer (some ⟨w.heap.size, 22, none⟩), .int .i64 4, .int .i64 20, .int .i64 20] 156 _ rfl rfl (by kernel_rfl) rfl (by simp [Value.oneCell']) ?_; intro w6 hh hb; have HH := Lib.hid hh; have HB6 := Lib.hid hb; clear hh hb))
      have BX6 := Lib.hid (blk_below BX.out HB6.out)
      have q0 : ∀ y : KeepT nowhere w6, y.val.cell? ⟨wr.heap.size, 0, none⟩ = some (.pointer (some ⟨w.heap.size, 22, none⟩)) := fun y => y.cell (cell_of_row _ _ 0 _ _ _ HH.out) id
      have q3 : ∀ y : KeepT nowhere w6, y.val.cell? ⟨wr.heap.size, 3, none⟩ = some (.int .i64 20) := fun y => y.cell (cell_of_row _ _ 3 _ _ _ HH.out) id
      have qs : ∀ y : KeepT nowhere w6, y.val.cell? ⟨w.heap.size, 22, none⟩ = some (.string (strOf x.serial)) := fun y => y.cell ((cell_of_row _ _ 22 _ _ _ BX6.out).trans F22.out) id
      clear cX
      go_wp2
      refine wp_region_planW nowhere [(true, 0), (true, 1), (true, 2), (true, 3), (true, 4), (true, 5), (false, 6), (true, 7), (true, 8), (true, 9), (true, 10), (true, 11)] (by kernel_rfl) (by kernel_rfl) (by intro c a d v w h; cases d <;> exact h) ?_
      intro W1 K1 C1
      repeat (refine wpS_firm rfl (fun K hK => ?_); simp only [Keep]; go_simp; refine hK _ ?_; clear hK K)
      refine wpS_chain rfl ?_
      go_wp2_with (go_at_call 85; go_loud (refine (Pad_at x.serial (20 : Nat) e b _ (by have := HLEN.out; omega) (by decide) HE.out HB.out).mono ?_; rintro r w7 ⟨u, rfl, hu, hw⟩; have U := Lib.hid hu; have K2 := Lib.hid (K1.out.below hw); have C7 := Lib.hid (gr_tr HB6.out (gr_tr C1.out hw)); have C67 := Lib.hid (gr_tr C1.out hw); clear hu hw))
      refine ⟨K2.out, ?_⟩
      repeat (refine wpS_firm rfl (fun K hK => ?_); simp only [Keep]; go_simp; refine hK _ ?_; clear hK K)
      unfold wpS
      clear q0 q3 qs
      have HH7 := Lib.hid (blk_below HH.out C67.out)
      have d0 := (cell_of_row _ _ 0 _ _ _ HH7.out).trans (rfl : _ = some (Value.pointer (some ⟨w.heap.size, 22, none⟩)))
      have d1 := (cell_of_row _ _ 1 _ _ _ HH7.out).trans (rfl : _ = some (Value.int .i64 4))
      have d2 := (cell_of_row _ _ 2 _ _ _ HH7.out).trans (rfl : _ = some (Value.int .i64 20))
      have d3 := (cell_of_row _ _ 3 _ _ _ HH7.out).trans (rfl : _ = some (Value.int .i64 20))
      have BX7 := Lib.hid (blk_below BX.out C7.out)
      have dX := (cell_of_row _ _ 22 _ _ _ BX7.out).trans F22.out
      have O7 := Lib.hid (O.out.below C7.out)
      have D7 := Lib.hid (gr_tr D.out C7.out)
      obtain ⟨ua, un, uc, rfl⟩ : ∃ a n c, u = .slice a n c := by obtain ⟨a, c, e, _⟩ := U.out; exact ⟨_, _, _, e⟩
      by_cases he0 : e = 0
      · subst he0
        have hpd := pad_ok HE.out
        have hln := padE_len HE.out
        rw [HB.out] at hpd
        obtain ⟨h, hh⟩ : ∃ h, (x.serial.getLast? == some 32#8) = h := ⟨_, rfl⟩
        have hsz := str_size x.serial
        have hno := HNO.out
        rw [hh] at hno
        have HSF := Lib.hid (show Lib.hasSuffix (strOf x.serial).data.toList (⟨#[32]⟩ : ByteArray).data.toList = h by rw [suffix_last]; exact hh)
        have HNO2 := Lib.hid hno; have HPD := Lib.hid hpd; have HLN := Lib.hid hln
        clear hh hno hpd hln
        cases h
        · have hr := run_from W.heap.size 4096 4096 4 (by omega) (by omega) (by omega) (by omega)
          go_wp2_with (first
            | (go_at_call 86; go_loud (refine (Tryd.strings_HasSuffix (strOf x.serial) ⟨#[32]⟩ _ (by rw [str_size]; have := HLEN.out; omega)).mono ?_; rw [HSF.out]; rintro r wz ⟨rfl, hwz⟩; rw [hwz]; clear hwz))
            | (refine copy_at0 rfl (.tmp 51) (.tmp 52) rfl W.heap.size W.heap.size 4 (Lay.lays L0 ((ctlTs x).take 0)) (fill x.serial 20 32#8) rfl (.slice ua un uc) rfl O7.out (by have := U.out; rw [HPD.out] at this; exact this) (by rw [fill_len HLN.out]; omega) ?_; intro w8 ho hg; have O8 := Lib.hid ho; have D8 := Lib.hid (D7.out.grown hg D7.out.size (fun k hk => by cases hk; exact Nat.le_of_lt HS.out)); have BX8 := Lib.hid ((hg.block w.heap.size (Array.getElem?_eq_some_iff.1 BX7.out).1 (fun e => by injection e with e; have := HS.out; omega)).trans BX7.out); clear ho hg))
          go_roundw
          case rel => exact ⟨1, by omega, rfl, by have := O8.out; rw [← Lay.lays_snoc _ _ (4, (fill x.serial 20 32#8))] at this; exact this, Lib.hid ⟨fun _ => by rw [HNO2.out]; rfl, fun h => absurd h (by omega), fun h => absurd h (by omega), fun h => absurd h (by omega)⟩, BX8.out, D8.out⟩
          case measure => simp [intOf]
        · go_wp2_with (go_at_call 86; go_loud (refine (Tryd.strings_HasSuffix (strOf x.serial) ⟨#[32]⟩ _ (by rw [str_size]; have := HLEN.out; omega)).mono ?_; rw [HSF.out]; rintro r wz ⟨rfl, hwz⟩; rw [hwz]; clear hwz))
          go_ret2
          have hbad : ctlOk x = false := by unfold ctlOk; rw [HNO2.out]; simp
          exact ⟨_, by unfold ctlE; rw [hbad]; rfl, by unfold ctlR; rw [hbad]; exact BytesV.nil _, D7.out⟩
      · have hq : (e != 0) = true := by simpa using he0
        have hq2 : (e == 0) = false := by simpa using he0
        have hbad : ctlOk x = false := by unfold ctlOk; rw [HNO.out, hq2]; simp
        have HBAD := Lib.hid hbad
        clear he0 hq2 hbad
        go_wp2
        go_ret2
        exact ⟨_, by unfold ctlE; rw [HBAD.out]; rfl, by unfold ctlR; rw [HBAD.out]; exact BytesV.nil _, D7.out⟩
    · have e : ((1 : Nat) : Int) = 1 := rfl
      rw [e]; clear e
      have cX := (cell_of_row _ _ 23 _ _ _ BX.out).trans F23.out
      obtain ⟨e, he⟩ : ∃ e, Wire.padE x.model (40 : Nat) = e := ⟨_, rfl⟩
      obtain ⟨b, hb⟩ : ∃ b, Wire.pad x.model (40 : Nat) = b := ⟨_, rfl⟩
      have hno := nameOk_pad x.model 40 (by decide)
      rw [he] at hno
      have HE := Lib.hid he; have HB := Lib.hid hb; have HNO := Lib.hid hno
      clear he hb hno
      go_upto_region 6 with (first
        | (refine wpList_index_txt rfl (.tmp 13) (.tmp 14) rfl w.heap.size rfl 1 rfl #[.pointer (some ⟨w.heap.size, 23, none⟩), .int .i64 24, .int .i64 40, .int .i64 40] (by simp) ?_)
        | (refine wpList_store_new rfl 156 (.tmp 6) (.tmp 16) rfl #[.pointer (some ⟨w.heap.size, 23, none⟩), .int .i64 24, .int .i64 40, .int .i64 40] 156 _ rfl rfl (by kernel_rfl) rfl (by simp [Value.oneCell']) ?_; intro w6 hh hb; have HH := Lib.hid hh; have HB6 := Lib.hid hb; clear hh hb))
      have BX6 := Lib.hid (blk_below BX.out HB6.out)
      have q0 : ∀ y : KeepT nowhere w6, y.val.cell? ⟨wr.heap.size, 0, none⟩ = some (.pointer (some ⟨w.heap.size, 23, none⟩)) := fun y => y.cell (cell_of_row _ _ 0 _ _ _ HH.out) id
      have q3 : ∀ y : KeepT nowhere w6, y.val.cell? ⟨wr.heap.size, 3, none⟩ = some (.int .i64 40) := fun y => y.cell (cell_of_row _ _ 3 _ _ _ HH.out) id
      have qs : ∀ y : KeepT nowhere w6, y.val.cell? ⟨w.heap.size, 23, none⟩ = some (.string (strOf x.model)) := fun y => y.cell ((cell_of_row _ _ 23 _ _ _ BX6.out).trans F23.out) id
      clear cX
      go_wp2
      refine wp_region_planW nowhere [(true, 0), (true, 1), (true, 2), (true, 3), (true, 4), (true, 5), (false, 6), (true, 7), (true, 8), (true, 9), (true, 10), (true, 11)] (by kernel_rfl) (by kernel_rfl) (by intro c a d v w h; cases d <;> exact h) ?_
      intro W1 K1 C1
      repeat (refine wpS_firm rfl (fun K hK => ?_); simp only [Keep]; go_simp; refine hK _ ?_; clear hK K)
      refine wpS_chain rfl ?_
      go_wp2_with (go_at_call 85; go_loud (refine (Pad_at x.model (40 : Nat) e b _ (by have := HLEN.out; omega) (by decide) HE.out HB.out).mono ?_; rintro r w7 ⟨u, rfl, hu, hw⟩; have U := Lib.hid hu; have K2 := Lib.hid (K1.out.below hw); have C7 := Lib.hid (gr_tr HB6.out (gr_tr C1.out hw)); have C67 := Lib.hid (gr_tr C1.out hw); clear hu hw))
      refine ⟨K2.out, ?_⟩
      repeat (refine wpS_firm rfl (fun K hK => ?_); simp only [Keep]; go_simp; refine hK _ ?_; clear hK K)
      unfold wpS
      clear q0 q3 qs
      have HH7 := Lib.hid (blk_below HH.out C67.out)
      have d0 := (cell_of_row _ _ 0 _ _ _ HH7.out).trans (rfl : _ = some (Value.pointer (some ⟨w.heap.size, 23, none⟩)))
      have d1 := (cell_of_row _ _ 1 _ _ _ HH7.out).trans (rfl : _ = some (Value.int .i64 24))
      have d2 := (cell_of_row _ _ 2 _ _ _ HH7.out).trans (rfl : _ = some (Value.int .i64 40))
      have d3 := (cell_of_row _ _ 3 _ _ _ HH7.out).trans (rfl : _ = some (Value.int .i64 40))
      have BX7 := Lib.hid (blk_below BX.out C7.out)
      have dX := (cell_of_row _ _ 23 _ _ _ BX7.out).trans F23.out
      have O7 := Lib.hid (O.out.below C7.out)
      have D7 := Lib.hid (gr_tr D.out C7.out)
      obtain ⟨ua, un, uc, rfl⟩ : ∃ a n c, u = .slice a n c := by obtain ⟨a, c, e, _⟩ := U.out; exact ⟨_, _, _, e⟩
      by_cases he0 : e = 0
      · subst he0
        have hpd := pad_ok HE.out
        have hln := padE_len HE.out
        rw [HB.out] at hpd
        obtain ⟨h, hh⟩ : ∃ h, (x.model.getLast? == some 32#8) = h := ⟨_, rfl⟩
        have hsz := str_size x.model
        have hno := HNO.out
        rw [hh] at hno
        have HSF := Lib.hid (show Lib.hasSuffix (strOf x.model).data.toList (⟨#[32]⟩ : ByteArray).data.toList = h by rw [suffix_last]; exact hh)
        have HNO2 := Lib.hid hno; have HPD := Lib.hid hpd; have HLN := Lib.hid hln
        clear hh hno hpd hln
        cases h
        · have hr := run_from W.heap.size 4096 4096 24 (by omega) (by omega) (by omega) (by omega)
          go_wp2_with (first
            | (go_at_call 86; go_loud (refine (Tryd.strings_HasSuffix (strOf x.model) ⟨#[32]⟩ _ (by rw [str_size]; have := HLEN.out; omega)).mono ?_; rw [HSF.out]; rintro r wz ⟨rfl, hwz⟩; rw [hwz]; clear hwz))
            | (refine copy_at0 rfl (.tmp 51) (.tmp 52) rfl W.heap.size W.heap.size 24 (Lay.lays L0 ((ctlTs x).take 1)) (fill x.model 40 32#8) rfl (.slice ua un uc) rfl O7.out (by have := U.out; rw [HPD.out] at this; exact this) (by rw [fill_len HLN.out]; omega) ?_; intro w8 ho hg; have O8 := Lib.hid ho; have D8 := Lib.hid (D7.out.grown hg D7.out.size (fun k hk => by cases hk; exact Nat.le_of_lt HS.out)); have BX8 := Lib.hid ((hg.block w.heap.size (Array.getElem?_eq_some_iff.1 BX7.out).1 (fun e => by injection e with e; have := HS.out; omega)).trans BX7.out); clear ho hg))
          go_roundw
          case rel => exact ⟨2, by omega, rfl, by have := O8.out; rw [← Lay.lays_snoc _ _ (24, (fill x.model 40 32#8))] at this; exact this, Lib.hid ⟨fun _ => hok.out.1 (by omega), fun _ => by rw [HNO2.out]; rfl, fun h => absurd h (by omega), fun h => absurd h (by omega)⟩, BX8.out, D8.out⟩
          case measure => simp [intOf]
        · go_wp2_with (go_at_call 86; go_loud (refine (Tryd.strings_HasSuffix (strOf x.model) ⟨#[32]⟩ _ (by rw [str_size]; have := HLEN.out; omega)).mono ?_; rw [HSF.out]; rintro r wz ⟨rfl, hwz⟩; rw [hwz]; clear hwz))
          go_ret2
          have hbad : ctlOk x = false := by unfold ctlOk; rw [HNO2.out]; simp
          exact ⟨_, by unfold ctlE; rw [hbad]; rfl, by unfold ctlR; rw [hbad]; exact BytesV.nil _, D7.out⟩
      · have hq : (e != 0) = true := by simpa using he0
        have hq2 : (e == 0) = false := by simpa using he0
        have hbad : ctlOk x = false := by unfold ctlOk; rw [HNO.out, hq2]; simp
        have HBAD := Lib.hid hbad
        clear he0 hq2 hbad
        go_wp2
        go_ret2
        exact ⟨_, by unfold ctlE; rw [HBAD.out]; rfl, by unfold ctlR; rw [HBAD.out]; exact BytesV.nil _, D7.out⟩
    · have e : ((2 : Nat) : Int) = 2 := rfl
      rw [e]; clear e
      have cX := (cell_of_row _ _ 24 _ _ _ BX.out).trans F24.out
      obtain ⟨e, he⟩ : ∃ e, Wire.padE x.revision (8 : Nat) = e := ⟨_, rfl⟩
      obtain ⟨b, hb⟩ : ∃ b, Wire.pad x.revision (8 : Nat) = b := ⟨_, rfl⟩
      have hno := nameOk_pad x.revision 8 (by decide)
      rw [he] at hno
      have HE := Lib.hid he; have HB := Lib.hid hb; have HNO := Lib.hid hno
      clear he hb hno
      go_upto_region 6 with (first
        | (refine wpList_index_txt rfl (.tmp 13) (.tmp 14) rfl w.heap.size rfl 2 rfl #[.pointer (some ⟨w.heap.size, 24, none⟩), .int .i64 64, .int .i64 8, .int .i64 8] (by simp) ?_)
        | (refine wpList_store_new rfl 156 (.tmp 6) (.tmp 16) rfl #[.pointer (some ⟨w.heap.size, 24, none⟩), .int .i64 64, .int .i64 8, .int .i64 8] 156 _ rfl rfl (by kernel_rfl) rfl (by simp [Value.oneCell']) ?_; intro w6 hh hb; have HH := Lib.hid hh; have HB6 := Lib.hid hb; clear hh hb))
      have BX6 := Lib.hid (blk_below BX.out HB6.out)
      have q0 : ∀ y : KeepT nowhere w6, y.val.cell? ⟨wr.heap.size, 0, none⟩ = some (.pointer (some ⟨w.heap.size, 24, none⟩)) := fun y => y.cell (cell_of_row _ _ 0 _ _ _ HH.out) id
      have q3 : ∀ y : KeepT nowhere w6, y.val.cell? ⟨wr.heap.size, 3, none⟩ = some (.int .i64 8) := fun y => y.cell (cell_of_row _ _ 3 _ _ _ HH.out) id
      have qs : ∀ y : KeepT nowhere w6, y.val.cell? ⟨w.heap.size, 24, none⟩ = some (.string (strOf x.revision)) := fun y => y.cell ((cell_of_row _ _ 24 _ _ _ BX6.out).trans F24.out) id
      clear cX
      go_wp2
      refine wp_region_planW nowhere [(true, 0), (true, 1), (true, 2), (true, 3), (true, 4), (true, 5), (false, 6), (true, 7), (true, 8), (true, 9), (true, 10), (true, 11)] (by kernel_rfl) (by kernel_rfl) (by intro c a d v w h; cases d <;> exact h) ?_
      intro W1 K1 C1
      repeat (refine wpS_firm rfl (fun K hK => ?_); simp only [Keep]; go_simp; refine hK _ ?_; clear hK K)
      refine wpS_chain rfl ?_
      go_wp2_with (go_at_call 85; go_loud (refine (Pad_at x.revision (8 : Nat) e b _ (by have := HLEN.out; omega) (by decide) HE.out HB.out).mono ?_; rintro r w7 ⟨u, rfl, hu, hw⟩; have U := Lib.hid hu; have K2 := Lib.hid (K1.out.below hw); have C7 := Lib.hid (gr_tr HB6.out (gr_tr C1.out hw)); have C67 := Lib.hid (gr_tr C1.out hw); clear hu hw))
      refine ⟨K2.out, ?_⟩
      repeat (refine wpS_firm rfl (fun K hK => ?_); simp only [Keep]; go_simp; refine hK _ ?_; clear hK K)
      unfold wpS
      clear q0 q3 qs
      have HH7 := Lib.hid (blk_below HH.out C67.out)
      have d0 := (cell_of_row _ _ 0 _ _ _ HH7.out).trans (rfl : _ = some (Value.pointer (some ⟨w.heap.size, 24, none⟩)))
      have d1 := (cell_of_row _ _ 1 _ _ _ HH7.out).trans (rfl : _ = some (Value.int .i64 64))
      have d2 := (cell_of_row _ _ 2 _ _ _ HH7.out).trans (rfl : _ = some (Value.int .i64 8))
      have d3 := (cell_of_row _ _ 3 _ _ _ HH7.out).trans (rfl : _ = some (Value.int .i64 8))
      have BX7 := Lib.hid (blk_below BX.out C7.out)
      have dX := (cell_of_row _ _ 24 _ _ _ BX7.out).trans F24.out
      have O7 := Lib.hid (O.out.below C7.out)
      have D7 := Lib.hid (gr_tr D.out C7.out)
      obtain ⟨ua, un, uc, rfl⟩ : ∃ a n c, u = .slice a n c := by obtain ⟨a, c, e, _⟩ := U.out; exact ⟨_, _, _, e⟩
      by_cases he0 : e = 0
      · subst he0
        have hpd := pad_ok HE.out
        have hln := padE_len HE.out
        rw [HB.out] at hpd
        obtain ⟨h, hh⟩ : ∃ h, (x.revision.getLast? == some 32#8) = h := ⟨_, rfl⟩
        have hsz := str_size x.revision
        have hno := HNO.out
        rw [hh] at hno
        have HSF := Lib.hid (show Lib.hasSuffix (strOf x.revision).data.toList (⟨#[32]⟩ : ByteArray).data.toList = h by rw [suffix_last]; exact hh)
        have HNO2 := Lib.hid hno; have HPD := Lib.hid hpd; have HLN := Lib.hid hln
        clear hh hno hpd hln
        cases h
        · have hr := run_from W.heap.size 4096 4096 64 (by omega) (by omega) (by omega) (by omega)
          go_wp2_with (first
            | (go_at_call 86; go_loud (refine (Tryd.strings_HasSuffix (strOf x.revision) ⟨#[32]⟩ _ (by rw [str_size]; have := HLEN.out; omega)).mono ?_; rw [HSF.out]; rintro r wz ⟨rfl, hwz⟩; rw [hwz]; clear hwz))
            | (refine copy_at0 rfl (.tmp 51) (.tmp 52) rfl W.heap.size W.heap.size 64 (Lay.lays L0 ((ctlTs x).take 2)) (fill x.revision 8 32#8) rfl (.slice ua un uc) rfl O7.out (by have := U.out; rw [HPD.out] at this; exact this) (by rw [fill_len HLN.out]; omega) ?_; intro w8 ho hg; have O8 := Lib.hid ho; have D8 := Lib.hid (D7.out.grown hg D7.out.size (fun k hk => by cases hk; exact Nat.le_of_lt HS.out)); have BX8 := Lib.hid ((hg.block w.heap.size (Array.getElem?_eq_some_iff.1 BX7.out).1 (fun e => by injection e with e; have := HS.out; omega)).trans BX7.out); clear ho hg))
          go_roundw
          case rel => exact ⟨3, by omega, rfl, by have := O8.out; rw [← Lay.lays_snoc _ _ (64, (fill x.revision 8 32#8))] at this; exact this, Lib.hid ⟨fun _ => hok.out.1 (by omega), fun _ => hok.out.2.1 (by omega), fun _ => by rw [HNO2.out]; rfl, fun h => absurd h (by omega)⟩, BX8.out, D8.out⟩
          case measure => simp [intOf]
        · go_wp2_with (go_at_call 86; go_loud (refine (Tryd.strings_HasSuffix (strOf x.revision) ⟨#[32]⟩ _ (by rw [str_size]; have := HLEN.out; omega)).mono ?_; rw [HSF.out]; rintro r wz ⟨rfl, hwz⟩; rw [hwz]; clear hwz))
          go_ret2
          have hbad : ctlOk x = false := by unfold ctlOk; rw [HNO2.out]; simp
          exact ⟨_, by unfold ctlE; rw [hbad]; rfl, by unfold ctlR; rw [hbad]; exact BytesV.nil _, D7.out⟩
      · have hq : (e != 0) = true := by simpa using he0
        have hq2 : (e == 0) = false := by simpa using he0
        have hbad : ctlOk x = false := by unfold ctlOk; rw [HNO.out, hq2]; simp
        have HBAD := Lib.hid hbad
        clear he0 hq2 hbad
        go_wp2
        go_ret2
        exact ⟨_, by unfold ctlE; rw [HBAD.out]; rfl, by unfold ctlR; rw [HBAD.out]; exact BytesV.nil _, D7.out⟩
    · have e : ((3 : Nat) : Int) = 3 := rfl
      rw [e]; clear e
      have cX := (cell_of_row _ _ 25 _ _ _ BX.out).trans F25.out
      obtain ⟨e, he⟩ : ∃ e, Wire.padE x.name (223 : Nat) = e := ⟨_, rfl⟩
      obtain ⟨b, hb⟩ : ∃ b, Wire.pad x.name (223 : Nat) = b := ⟨_, rfl⟩
      have hno := nameOk_pad x.name 223 (by decide)
      rw [he] at hno
      have HE := Lib.hid he; have HB := Lib.hid hb; have HNO := Lib.hid hno
      clear he hb hno
      go_upto_region 6 with (first
        | (refine wpList_index_txt rfl (.tmp 13) (.tmp 14) rfl w.heap.size rfl 3 rfl #[.pointer (some ⟨w.heap.size, 25, none⟩), .int .i64 768, .int .i64 256, .int .i64 223] (by simp) ?_)
        | (refine wpList_store_new rfl 156 (.tmp 6) (.tmp 16) rfl #[.pointer (some ⟨w.heap.size, 25, none⟩), .int .i64 768, .int .i64 256, .int .i64 223] 156 _ rfl rfl (by kernel_rfl) rfl (by simp [Value.oneCell']) ?_; intro w6 hh hb; have HH := Lib.hid hh; have HB6 := Lib.hid hb; clear hh hb))
      have BX6 := Lib.hid (blk_below BX.out HB6.out)
      have q0 : ∀ y : KeepT nowhere w6, y.val.cell? ⟨wr.heap.size, 0, none⟩ = some (.pointer (some ⟨w.heap.size, 25, none⟩)) := fun y => y.cell (cell_of_row _ _ 0 _ _ _ HH.out) id
      have q3 : ∀ y : KeepT nowhere w6, y.val.cell? ⟨wr.heap.size, 3, none⟩ = some (.int .i64 223) := fun y => y.cell (cell_of_row _ _ 3 _ _ _ HH.out) id
      have qs : ∀ y : KeepT nowhere w6, y.val.cell? ⟨w.heap.size, 25, none⟩ = some (.string (strOf x.name)) := fun y => y.cell ((cell_of_row _ _ 25 _ _ _ BX6.out).trans F25.out) id
      clear cX
      go_wp2
      refine wp_region_planW nowhere [(true, 0), (true, 1), (true, 2), (true, 3), (true, 4), (true, 5), (false, 6), (true, 7), (true, 8), (true, 9), (true, 10), (true, 11)] (by kernel_rfl) (by kernel_rfl) (by intro c a d v w h; cases d <;> exact h) ?_
      intro W1 K1 C1
      repeat (refine wpS_firm rfl (fun K hK => ?_); simp only [Keep]; go_simp; refine hK _ ?_; clear hK K)
      refine wpS_chain rfl ?_
      go_wp2_with (go_at_call 85; go_loud (refine (Pad_at x.name (223 : Nat) e b _ (by have := HLEN.out; omega) (by decide) HE.out HB.out).mono ?_; rintro r w7 ⟨u, rfl, hu, hw⟩; have U := Lib.hid hu; have K2 := Lib.hid (K1.out.below hw); have C7 := Lib.hid (gr_tr HB6.out (gr_tr C1.out hw)); have C67 := Lib.hid (gr_tr C1.out hw); clear hu hw))
      refine ⟨K2.out, ?_⟩
      repeat (refine wpS_firm rfl (fun K hK => ?_); simp only [Keep]; go_simp; refine hK _ ?_; clear hK K)
      unfold wpS
      clear q0 q3 qs
      have HH7 := Lib.hid (blk_below HH.out C67.out)
      have d0 := (cell_of_row _ _ 0 _ _ _ HH7.out).trans (rfl : _ = some (Value.pointer (some ⟨w.heap.size, 25, none⟩)))
      have d1 := (cell_of_row _ _ 1 _ _ _ HH7.out).trans (rfl : _ = some (Value.int .i64 768))
      have d2 := (cell_of_row _ _ 2 _ _ _ HH7.out).trans (rfl : _ = some (Value.int .i64 256))
      have d3 := (cell_of_row _ _ 3 _ _ _ HH7.out).trans (rfl : _ = some (Value.int .i64 223))
      have BX7 := Lib.hid (blk_below BX.out C7.out)
      have dX := (cell_of_row _ _ 25 _ _ _ BX7.out).trans F25.out
      have O7 := Lib.hid (O.out.below C7.out)
      have D7 := Lib.hid (gr_tr D.out C7.out)
      obtain ⟨ua, un, uc, rfl⟩ : ∃ a n c, u = .slice a n c := by obtain ⟨a, c, e, _⟩ := U.out; exact ⟨_, _, _, e⟩
      by_cases he0 : e = 0
      · subst he0
        have hpd := pad_ok HE.out
        have hln := padE_len HE.out
        rw [HB.out] at hpd
        obtain ⟨h, hh⟩ : ∃ h, (x.name.getLast? == some 32#8) = h := ⟨_, rfl⟩
        have hsz := str_size x.name
        have hno := HNO.out
        rw [hh] at hno
        have HSF := Lib.hid (show Lib.hasSuffix (strOf x.name).data.toList (⟨#[32]⟩ : ByteArray).data.toList = h by rw [suffix_last]; exact hh)
        have HNO2 := Lib.hid hno; have HPD := Lib.hid hpd; have HLN := Lib.hid hln
        clear hh hno hpd hln
        cases h
        · have hr := run_from W.heap.size 4096 4096 768 (by omega) (by omega) (by omega) (by omega)
          obtain ⟨u2, hu2, -, hr2⟩ := U.out.cut (P := Tryd.prog) (T := 22) Tryd.underlying22 bszU 0 x.name.length (by omega) (by rw [HPD.out, fill_len HLN.out]; exact HLN.out)
          have hr2 : ∀ w', (Instr.slice 22 (.slice ua un uc) none (some (.int .i64 (x.name.length : Int))) none).run Tryd.prog w' = .ok u2 w' := hr2 rfl
          rw [List.drop_zero, HPD.out, show (fill x.name 223 32#8).take x.name.length = x.name by unfold fill; rw [List.take_left' rfl]] at hu2
          have U2 := Lib.hid hu2; clear hu2
          obtain ⟨va, vn, vc, rfl⟩ : ∃ a n c, u2 = .slice a n c := by obtain ⟨a, c, e, _⟩ := U2.out; exact ⟨_, _, _, e⟩
          go_wp2_with (first
            | (go_at_call 86; go_loud (refine (Tryd.strings_HasSuffix (strOf x.name) ⟨#[32]⟩ _ (by rw [str_size]; have := HLEN.out; omega)).mono ?_; rw [HSF.out]; rintro r wz ⟨rfl, hwz⟩; rw [hwz]; clear hwz))
            | (refine copy_at0 rfl (.tmp 51) (.tmp 52) rfl W.heap.size W.heap.size 768 (Lay.lays L0 ((ctlTs x).take 3)) x.name rfl (.slice va vn vc) rfl O7.out U2.out (by have := HLN.out; omega) ?_; intro w8 ho hg; have O8 := Lib.hid ho; have D8 := Lib.hid (D7.out.grown hg D7.out.size (fun k hk => by cases hk; exact Nat.le_of_lt HS.out)); have BX8 := Lib.hid ((hg.block w.heap.size (Array.getElem?_eq_some_iff.1 BX7.out).1 (fun e => by injection e with e; have := HS.out; omega)).trans BX7.out); clear ho hg))
          go_roundw
          case rel => exact ⟨4, by omega, rfl, by have := O8.out; rw [← Lay.lays_snoc _ _ (768, x.name)] at this; exact this, Lib.hid ⟨fun _ => hok.out.1 (by omega), fun _ => hok.out.2.1 (by omega), fun _ => hok.out.2.2.1 (by omega), fun _ => by rw [HNO2.out]; rfl⟩, BX8.out, D8.out⟩
          case measure => simp [intOf]
        · go_wp2_with (go_at_call 86; go_loud (refine (Tryd.strings_HasSuffix (strOf x.name) ⟨#[32]⟩ _ (by rw [str_size]; have := HLEN.out; omega)).mono ?_; rw [HSF.out]; rintro r wz ⟨rfl, hwz⟩; rw [hwz]; clear hwz))
          go_ret2
          have hbad : ctlOk x = false := by unfold ctlOk; rw [HNO2.out]; simp
          exact ⟨_, by unfold ctlE; rw [hbad]; rfl, by unfold ctlR; rw [hbad]; exact BytesV.nil _, D7.out⟩
      · have hq : (e != 0) = true := by simpa using he0
        have hq2 : (e == 0) = false := by simpa using he0
        have hbad : ctlOk x = false := by unfold ctlOk; rw [HNO.out, hq2]; simp
        have HBAD := Lib.hid hbad
        clear he0 hq2 hbad
        go_wp2
        go_ret2
        exact ⟨_, by unfold ctlE; rw [HBAD.out]; rfl, by unfold ctlR; rw [HBAD.out]; exact BytesV.nil _, D7.out⟩
    · have e : ((4 : Nat) : Int) = 4 := rfl
      rw [e]; clear e
      have OKA := Lib.hid (txtOk_all hok.out)
      go_wp2
      go_ret2
      refine ⟨_, by unfold ctlE; rw [OKA.out]; rfl, ?_, D.out⟩
      have := O.out.bytes
      unfold ctlR; rw [if_pos OKA.out]; unfold ctlB; rw [Lay.lays_append, HL0.out]; exact this
end Go.Proofs.YthnnopjakpjoeaaDoor
