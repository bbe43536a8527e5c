/- Discovery: the bytes of a record: the program. Printed by gendscd.py. -/
import Derived.Test.YtjcgdenkmmgmfaaGreatDoorDscC
import Derived.Test.YtjcgdenkmmgmfaaGreatDoorCopyIn
import Derived.Test.YtjcgdenkmmgmfaaGreatDoorPlanL
import Derived.Test.YtjcgdenkmmgmfaaGreatDoorConcat
import Derived.Lib.BufferWrite
namespace Go.Proofs.YtjcgdenkmmgmfaaGreatDoor
open Go.RowKit Dsc
set_option linter.unusedVariables false
set_option linter.unusedSimpArgs false
theorem bytes_shape {w : World} {u : Value} {l : List (BitVec 8)} (h : BytesV w u l) : ∃ a n c, u = .slice a n c := by
  obtain ⟨a, c, rfl, _⟩ := h; exact ⟨_, _, _, rfl⟩
theorem PartsV.lit {w : World} (cs : Array Value) (ty : TypeId) (fr : Nat × Nat) (ls : List (List (BitVec 8))) (n : Nat) (hn : n = ls.length) (hl : cs.size = n) (hm : n ≤ 9223372036854775807) (h : ∀ (i : Nat) (l : List (BitVec 8)), ls[i]? = some l → ∃ u, cs[i]? = some u ∧ BytesV w u l) :
    PartsV (w.alloc (.cells cs ty fr)) (.slice (some ⟨w.heap.size, 0, none⟩) n n) ls := by
  subst hn
  refine ⟨_, _, cs.toList, rfl, by simp, Nat.le_refl _, hm, Row.lit _ _ _ _, by simpa using hl, fun i l hi => ?_⟩
  obtain ⟨u, hu, hb⟩ := h i l hi
  exact ⟨u, by simpa using hu, hb.below (gr_alloc _ _)⟩
theorem lits3 {w : World} {u1 u2 u3 : Value} {l1 l2 l3 : List (BitVec 8)} (h1 : BytesV w u1 l1) (h2 : BytesV w u2 l2) (h3 : BytesV w u3 l3) : ∀ (i : Nat) (l : List (BitVec 8)), [l1, l2, l3][i]? = some l → ∃ u, #[u1, u2, u3][i]? = some u ∧ BytesV w u l := by
  intro i l h
  match i, h with
  | 0, h => cases h; exact ⟨_, rfl, h1⟩
  | 1, h => cases h; exact ⟨_, rfl, h2⟩
  | 2, h => cases h; exact ⟨_, rfl, h3⟩
theorem repeat_sp (c : Nat) : (⟨(Lib.repeatL (⟨#[32]⟩ : ByteArray).data.toList c).toArray⟩ : ByteArray) = strOf (List.replicate c 32#8) := by
  unfold strOf
  congr 2
  induction c with
  | zero => rfl
  | succ c ih => rw [Lib.repeatL, ih, List.replicate_succ, List.map_cons]; rfl
theorem repeat_at (c : Nat) (w : World) (hc : c ≤ 1000) : Calls Tryz.prog 59 #[.string ⟨#[32]⟩, .int .i64 c] w fun e w' => e = .returned (.string (strOf (List.replicate c 32#8))) ∧ Below w.heap.size w w' := by
  refine (Tryz.strings_Repeat ⟨#[32]⟩ c w (by omega) (by show 1 * c ≤ _; omega)).mono ?_
  rintro e w' ⟨rfl, hw⟩
  exact ⟨by rw [repeat_sp], hw⟩
theorem strOf_append (a b : List (BitVec 8)) : strOf a ++ strOf b = strOf (a ++ b) := by
  apply ByteArray.ext
  unfold strOf
  rw [ByteArray.data_append]
  simp
/-- 'copy(own[p:], text)'. -/
theorem copy_str_at {ops : Array Oper} {rest : List Oper} {o : Oper} {a : Act} {Q : Exit → Act → World → Prop} {W : World} (hgd : o.guard = none) (d s : Operand) (ho : o.op = .call { callee := .builtin .copy, args := #[d, s], argTypes := #[45, 9] })
    (base g n cap p : Nat) (k l : List (BitVec 8)) (hd : a.eval d = .slice (some ⟨g, p, none⟩) (n - p) (cap - p)) (hs : a.eval s = .string (strOf l)) (hown : W.ownsRow base 5 1 (.slice (some ⟨g, 0, none⟩) n cap) n (by8 k)) (hl : p + l.length ≤ n)
    (h : ∀ w', w'.ownsRow base 5 1 (.slice (some ⟨g, 0, none⟩) n cap) n (by8 (Lay.lay k p l)) → W.grownBy w' (some g) → wpList Tryz.prog ops Q rest (a.put o.dst (goInt l.length)) w') : wpList Tryz.prog ops Q (o :: rest) a W := by
  obtain ⟨h1, h2⟩ := hown
  rcases h2 with ⟨e1, e2⟩ | ⟨g', cap', cur, hv, hg, hh, r1, r2, r3, r4⟩
  · cases e1
  cases hv
  simp only [by8_length, Nat.mul_one] at h1 r3 r4
  have hsz : (strOf l).size = l.length := strOf_size l
  have hbc : Lib.byteCells (strOf l).data.toList = by8 l := by
    unfold Lib.byteCells strOf by8
    simp [uv]
  refine wpList_plain hgd fun K hK => ?_
  have hrun := Lib.run_copy_row_string (P := Tryz.prog) W 45 9 o.type 5 g p (n - p) (cap - p) (strOf l) cur 5 Tryz.underlying45 bszU hh (by rw [hsz]; omega) (by rw [hsz]; omega)
  rw [hbc, hsz] at hrun
  unfold Oper.wp
  simp [execOp, ho, resolve, invoke, builtin, hd, hs, hrun, Result.andThen]
  refine hK _ _ (h _ ⟨by rw [by8_length, Nat.mul_one, Lay.lay_len (by omega)]; exact h1, .inr ⟨g, cap, _, rfl, hg, setRow_heap _ _ _ _ _ _ hh, r1, r2, ?_, ?_⟩⟩ ?_)
  · simp only [List.size_toArray, List.length_append, List.length_take, List.length_drop, by8_length, Array.length_toList]; omega
  · have hk : by8 (Lay.lay k p l) = (by8 k).take p ++ (by8 l ++ (by8 k).drop (p + l.length)) := by simp [by8, Lay.lay]
    have hc : cur.toList.take n = by8 k := r4
    rw [hk, ← hc, Nat.mul_one]
    simp only [List.append_assoc, List.take_append, List.length_take, Array.length_toList, by8_length]
    rw [List.take_take, List.take_take, Nat.min_eq_right (by omega : p ≤ n), Nat.min_eq_left (by omega : p ≤ n), Nat.min_eq_left (by omega : p ≤ cur.size), List.take_of_length_le (by rw [by8_length]; omega : (by8 l).length ≤ n - p)]
    rw [List.drop_take, show n - (p + l.length) = n - p - l.length by omega]
  · exact ⟨rfl, rfl, rfl, by simp [World.setRow], fun i hi hne => setRow_other W g i _ (by intro e; exact hne (by rw [e]))⟩
theorem number16_at (x : BitVec 16) (w : World) :
    Calls Tryz.prog 38 #[.int .u64 (uv x), .int .i64 2] w fun e w' => ∃ u, e = .returned u ∧ w'.ownsRow w.heap.size 5 1 u 2 (by8 (le2 x)) ∧ Below w.heap.size w w' := by
  have h := number_at (x.setWidth 64) 2 w (by decide)
  have e : uv (x.setWidth 64) = uv x := by
    unfold uv; rw [BitVec.toNat_setWidth]; have := x.isLt; rw [Nat.mod_eq_of_lt (by omega)]
  rw [e] at h
  exact h
theorem four_lit (r : Rec) (w : World) : BytesV (w.alloc (.cells #[.int .u8 (uv r.tr), .int .u8 (uv r.fa), .int .u8 (uv (ch r.rf)), .int .u8 (uv (ch r.sc))] 5)) (.slice (some ⟨w.heap.size, 0, none⟩) 4 4) r.four :=
  ⟨_, _, rfl, (fun h => by cases h), Nat.le_refl _, by decide, Row.lit w _ _ (0, 0)⟩
theorem RecAt.other {w w' : World} {g o G : Nat} {r : Rec} (h : RecAt w g o r) (hg : w.grownBy w' (some G)) (hn : g ≠ G) : RecAt w' g o r := by
  have key : ∀ (p : Nat) (v : Value), w.cell? ⟨g, p, none⟩ = some v → w'.cell? ⟨g, p, none⟩ = some v := fun p v hc => by
    have hlt : g < w.heap.size := block_lt_of_cell hc
    have hb := hg.block g hlt (fun e => hn (by cases e; rfl))
    unfold World.cell? at hc ⊢
    rw [hb]; exact hc
  exact ⟨key _ _ h.c0, key _ _ h.c1, key _ _ h.c2, key _ _ h.c3, key _ _ h.c4, key _ _ h.c5, key _ _ h.c6, key _ _ h.c7, key _ _ h.c8, key _ _ h.c9⟩
set_option maxHeartbeats 6400000 in
set_option maxRecDepth 20000 in
theorem record_at (r : Rec) (w : World) (hok : r.ok = true) :
    Calls Tryz.prog 39 #[.agg r.cells.toArray] w fun e w' => ∃ u, e = .returned u ∧ w'.ownsRow w.heap.size 5 1 u 1024 (by8 r.bytes) ∧ Below w.heap.size w w' := by
  have PB := Lib.hid (prog_bytes hok)
  have hparts := ok_parts hok
  have SVL := Lib.hid (txOk_len hparts.2.1); have ADL := Lib.hid (txOk_len hparts.2.2.1); have SBL := Lib.hid (nmOk_len hparts.2.2.2)
  clear hparts
  have L4 := Lib.hid r.four_len; have L6 := Lib.hid r.six_len
  obtain ⟨L0, hL0⟩ : ∃ L, List.replicate 1024 0#8 = L := ⟨_, rfl⟩
  rw [hL0] at PB
  have HL0 := Lib.hid hL0
  obtain ⟨L1, hL1⟩ : ∃ L, Lay.lay L0 0 r.four = L := ⟨_, rfl⟩
  rw [hL1] at PB
  obtain ⟨L2, hL2⟩ : ∃ L, Lay.lay L1 4 r.six = L := ⟨_, rfl⟩
  rw [hL2] at PB
  obtain ⟨L3, hL3⟩ : ∃ L, Lay.lay L2 32 (padS r.sv 32 32#8) = L := ⟨_, rfl⟩
  rw [hL3] at PB
  obtain ⟨L5, hL4⟩ : ∃ L, Lay.lay L3 256 r.sb = L := ⟨_, rfl⟩
  rw [hL4] at PB
  have HL1 := Lib.hid hL1; have HL2 := Lib.hid hL2; have HL3 := Lib.hid hL3; have HL4 := Lib.hid hL4
  clear hL0 hL1 hL2 hL3 hL4
  obtain ⟨W, hW⟩ : ∃ W, W = w.alloc (.cells r.cells.toArray 37) := ⟨_, rfl⟩
  have D := Lib.hid (show Below w.heap.size w W by rw [hW]; exact gr_alloc w _)
  have R := Lib.hid (RecAt.of_row (show W.heap[w.heap.size]? = some (.cells r.cells.toArray 37 (0, 0)) by rw [hW]; exact heap_alloc_new w _))
  have WS := Lib.hid (show W.heap.size = w.heap.size + 1 by rw [hW]; simp)
  have HW := Lib.hid hW
  clear hW
  go_enter Tryz.func39, Tryz.ntmps39
  go_upto_region 1 with fail
  first
    | rw [← HW.out]
    | (show Code.wp _ _ _ _ (w.alloc (.cells r.cells.toArray 37)); rw [← HW.out])
  go_upto_region 2 with (refine make_law bytesOk rfl _ _ rfl W.heap.size .i64 .i64 1024 1024 1024 rfl rfl rfl rfl (by omega) (by omega) (Nat.le_refl _) ?_; intro w1 hown hgrow; rw [by8_made, HL0.out] at hown; have O := Lib.hid hown; have B1 := Lib.hid ((Below.refl W.heap.size W).grown hgrow (Nat.le_refl _) (by intro k hk; cases hk)); clear hown hgrow)
  replace R := Lib.hid (R.out.below B1.out)
  replace D := Lib.hid (gr_tr D.out B1.out)
  clear B1 HW
  obtain ⟨G, hG⟩ : ∃ G, W.heap.size = G := ⟨_, rfl⟩
  rw [hG] at O WS ⊢
  clear hG
  replace O := Lib.hid (own_base O.out (Nat.le_of_eq WS.out.symm))
  obtain ⟨V, hV⟩ : ∃ V, V = w1 := ⟨_, rfl⟩
  subst hV
  obtain ⟨c0, c1, c2, c3, c4, c5, c6, c7, c8, c9⟩ := R.out
  simp only [Nat.zero_add] at c0 c1 c2 c3 c4 c5 c6 c7 c8 c9
  have q0 : ∀ y : KeepT nowhere V, y.val.cell? ⟨w.heap.size, 0, none⟩ = some (.int .u8 (uv r.tr)) := fun y => y.cell c0 id
  have q1 : ∀ y : KeepT nowhere V, y.val.cell? ⟨w.heap.size, 1, none⟩ = some (.int .u8 (uv r.fa)) := fun y => y.cell c1 id
  have q2 : ∀ y : KeepT nowhere V, y.val.cell? ⟨w.heap.size, 2, none⟩ = some (.bool r.rf) := fun y => y.cell c2 id
  have q3 : ∀ y : KeepT nowhere V, y.val.cell? ⟨w.heap.size, 3, none⟩ = some (.bool r.sc) := fun y => y.cell c3 id
  clear c0 c1 c2 c3 c4 c5 c6 c7 c8 c9
  refine wp_region_planL nowhere [(true, 0), (true, 1), (true, 2), (true, 3), (true, 4), (true, 5), (true, 6), (true, 8), (true, 9), (false, 7), (false, 10), (false, 11)] 12 (by kernel_rfl) (by kernel_rfl) (by intro c a d v w h; cases d <;> exact h) ?_
  intro W1 K1 C1
  repeat (refine wpS_firm rfl (fun K hK => ?_); simp only [Keep]; go_simp; refine hK _ ?_; clear hK K)
  refine wpS_chain rfl ?_
  go_wp2_with (go_at_call 58; go_loud (refine (choice_at r.rf _ _ rfl).mono ?_; rintro e w2 ⟨rfl, rfl⟩))
  refine ⟨K1.out, ?_⟩
  repeat (refine wpS_firm rfl (fun K hK => ?_); simp only [Keep]; go_simp; refine hK _ ?_; clear hK K)
  refine wpS_chain rfl ?_
  go_wp2_with (go_at_call 58; go_loud (refine (choice_at r.sc _ _ rfl).mono ?_; rintro e w2 ⟨rfl, rfl⟩))
  refine ⟨K1.out, ?_⟩
  repeat (refine wpS_firm rfl (fun K hK => ?_); simp only [Keep]; go_simp; refine hK _ ?_; clear hK K)
  refine wpS_chain rfl ?_
  go_wp2
  refine ⟨K1.out.alloc _, ?_⟩
  unfold wpS
  refine wpL_last rfl ?_
  have CX := Lib.hid (gr_tr C1.out (gr_alloc W1 (.cells #[.int .u8 (uv r.tr), .int .u8 (uv r.fa), .int .u8 (uv (ch r.rf)), .int .u8 (uv (ch r.sc))] 5)))
  refine copy_at rfl (.tmp 5) (.tmp 16) rfl (w.heap.size + 1) G 1024 1024 0 L0 r.four rfl _ rfl (own_below O.out CX.out) (four_lit r W1) (by rw [L4.out]; decide) (by rw [L4.out]; decide) ?_
  intro w9 ho hg
  rw [HL1.out] at ho
  obtain ⟨V, hV⟩ : ∃ V, V = w9 := ⟨_, rfl⟩
  subst hV
  replace R := Lib.hid ((R.out.below CX.out).other hg (by have := WS.out; omega))
  replace D := Lib.hid ((gr_tr D.out CX.out).grown hg (gr_tr D.out CX.out).size (fun k e => by cases e; have := WS.out; omega))
  clear O
  have O := Lib.hid ho
  clear ho hg C1 K1 CX q0 q1 q2 q3
  go_upto_region 3 with fail
  obtain ⟨c0, c1, c2, c3, c4, c5, c6, c7, c8, c9⟩ := R.out
  simp only [Nat.zero_add] at c0 c1 c2 c3 c4 c5 c6 c7 c8 c9
  have q4 : ∀ y : KeepT nowhere V, y.val.cell? ⟨w.heap.size, 4, none⟩ = some (.int .u16 (uv r.po)) := fun y => y.cell c4 id
  have q5 : ∀ y : KeepT nowhere V, y.val.cell? ⟨w.heap.size, 5, none⟩ = some (.int .u16 (uv r.ct)) := fun y => y.cell c5 id
  have q6 : ∀ y : KeepT nowhere V, y.val.cell? ⟨w.heap.size, 6, none⟩ = some (.int .u16 (uv r.qu)) := fun y => y.cell c6 id
  clear c0 c1 c2 c3 c4 c5 c6 c7 c8 c9
  have hs4 : ∀ w, (Instr.slice 45 (.slice (some ⟨G, 0, none⟩) 1024 1024) (some (.int .i64 4)) none none).run Tryz.prog w = .ok (.slice (some ⟨G, 4, none⟩) 1020 1020) w := fun w => run_from G 1024 1024 4 (by decide) (by decide) (by decide) (by decide) w
  refine wp_region_planL nowhere [(true, 0), (true, 1), (true, 2), (true, 3), (true, 4), (true, 6), (true, 7), (true, 8), (true, 10), (true, 11), (true, 12), (false, 5), (false, 9), (false, 13), (false, 14), (false, 15)] 16 (by kernel_rfl) (by kernel_rfl) (by intro c a d v w h; cases d <;> exact h) ?_
  intro W1 K1 C1
  repeat (refine wpS_firm rfl (fun K hK => ?_); simp only [Keep]; go_simp; refine hK _ ?_; clear hK K)
  refine wpS_chain rfl ?_
  go_wp2_with (go_at_call 38; go_loud (refine (number16_at r.po _).mono ?_; rintro e w2 ⟨u2, rfl, ho, hb⟩; have U2 := Lib.hid (BytesV.of_own (l := le2 r.po) (by rw [le2_len]; exact ho)); have C2 := Lib.hid (gr_tr C1.out hb); have K2 := Lib.hid (K1.out.below hb); clear ho hb))
  obtain ⟨a2, n2, k2, rfl⟩ := bytes_shape U2.out
  refine ⟨K2.out, ?_⟩
  repeat (refine wpS_firm rfl (fun K hK => ?_); simp only [Keep]; go_simp; refine hK _ ?_; clear hK K)
  refine wpS_chain rfl ?_
  go_wp2_with (go_at_call 38; go_loud (refine (number16_at r.ct _).mono ?_; rintro e w3 ⟨u3, rfl, ho, hb⟩; have U3 := Lib.hid (BytesV.of_own (l := le2 r.ct) (by rw [le2_len]; exact ho)); have C3 := Lib.hid (gr_tr C2.out hb); have K3 := Lib.hid (K2.out.below hb); replace U2 := Lib.hid (U2.out.below hb); clear ho hb))
  obtain ⟨a3, n3, k3, rfl⟩ := bytes_shape U3.out
  refine ⟨K3.out, ?_⟩
  repeat (refine wpS_firm rfl (fun K hK => ?_); simp only [Keep]; go_simp; refine hK _ ?_; clear hK K)
  refine wpS_chain rfl ?_
  go_wp2_with (go_at_call 38; go_loud (refine (number16_at r.qu _).mono ?_; rintro e w4 ⟨u4, rfl, ho, hb⟩; have U4 := Lib.hid (BytesV.of_own (l := le2 r.qu) (by rw [le2_len]; exact ho)); have C4 := Lib.hid (gr_tr C3.out hb); have K4 := Lib.hid (K3.out.below hb); replace U2 := Lib.hid (U2.out.below hb); replace U3 := Lib.hid (U3.out.below hb); clear ho hb))
  obtain ⟨a4, n4, k4, rfl⟩ := bytes_shape U4.out
  refine ⟨K4.out, ?_⟩
  repeat (refine wpS_firm rfl (fun K hK => ?_); simp only [Keep]; go_simp; refine hK _ ?_; clear hK K)
  refine wpS_chain rfl ?_
  go_wp2
  have PV := Lib.hid (PartsV.lit #[.slice a2 n2 k2, .slice a3 n3 k3, .slice a4 n4 k4] 45 (0, 0) [le2 r.po, le2 r.ct, le2 r.qu] 3 rfl rfl (by omega) (lits3 U2.out U3.out U4.out))
  have C5 := Lib.hid (gr_tr C4.out (gr_alloc w4 (.cells #[.slice a2 n2 k2, .slice a3 n3 k3, .slice a4 n4 k4] 45)))
  have FL : [le2 r.po, le2 r.ct, le2 r.qu].flatten = r.six := by simp [Rec.six]
  refine ⟨K4.out.alloc _, ?_⟩
  have K5 := Lib.hid (K4.out.alloc (.cells #[.slice a2 n2 k2, .slice a3 n3 k3, .slice a4 n4 k4] 45))
  have CC := fun w h => Concat_any (.slice (some ⟨w4.heap.size, 0, none⟩) 3 3) [le2 r.po, le2 r.ct, le2 r.qu] w h (by rw [FL, L6.out]; decide)
  rw [FL] at CC
  clear FL
  repeat (refine wpS_firm rfl (fun K hK => ?_); simp only [Keep]; go_simp; refine hK _ ?_; clear hK K)
  refine wpS_chain rfl ?_
  go_wp2_with (go_at_call 37; go_loud (refine (CC _ PV.out).mono ?_; rintro e w6 ⟨u6, rfl, ho, hb⟩; have U6 := Lib.hid (BytesV.of_own (l := r.six) ho); have C6 := Lib.hid (gr_tr C5.out hb); have K6 := Lib.hid (K5.out.below hb); clear ho hb))
  refine ⟨K6.out, ?_⟩
  unfold wpS
  refine wpL_last rfl ?_
  clear CC
  refine copy_at rfl (.tmp 19) (.tmp 33) rfl (w.heap.size + 1) G 1024 1024 4 L1 r.six rfl _ rfl (own_below O.out C6.out) (U6.out) (by rw [L6.out]; decide) (by rw [L6.out]; decide) ?_
  intro w9 ho hg
  rw [HL2.out] at ho
  obtain ⟨V, hV⟩ : ∃ V, V = w9 := ⟨_, rfl⟩
  subst hV
  replace R := Lib.hid ((R.out.below C6.out).other hg (by have := WS.out; omega))
  replace D := Lib.hid ((gr_tr D.out C6.out).grown hg (gr_tr D.out C6.out).size (fun k e => by cases e; have := WS.out; omega))
  clear O
  have O := Lib.hid ho
  clear ho hg C1 K1 C2 K2 C3 K3 C4 K4 C5 K5 C6 K6 PV U2 U3 U4 U6 q4 q5 q6 hs4
  go_upto_region 4 with fail
  obtain ⟨c0, c1, c2, c3, c4, c5, c6, c7, c8, c9⟩ := R.out
  simp only [Nat.zero_add] at c0 c1 c2 c3 c4 c5 c6 c7 c8 c9
  have q7 : ∀ y : KeepT nowhere V, y.val.cell? ⟨w.heap.size, 7, none⟩ = some (.string (strOf r.sv)) := fun y => y.cell c7 id
  clear c0 c1 c2 c3 c4 c5 c6 c7 c8 c9
  have hs32 : ∀ w, (Instr.slice 45 (.slice (some ⟨G, 0, none⟩) 1024 1024) (some (.int .i64 32)) none none).run Tryz.prog w = .ok (.slice (some ⟨G, 32, none⟩) 992 992) w := fun w => run_from G 1024 1024 32 (by decide) (by decide) (by decide) (by decide) w
  obtain ⟨nl, hnl⟩ : ∃ nl, r.sv.length = nl := ⟨_, rfl⟩
  obtain ⟨cc, hcc⟩ : ∃ cc, 32 - nl = cc := ⟨_, rfl⟩
  have hle : nl ≤ 32 := by rw [← hnl]; exact SVL.out
  have hcat : strOf r.sv ++ strOf (List.replicate cc 32#8) = strOf (padS r.sv 32 32#8) := by rw [strOf_append]; unfold padS; rw [hnl, hcc]
  have hcap : (9223372036854775807 < (strOf r.sv).size + (strOf (List.replicate cc 32#8)).size) = False := eq_false (by rw [strOf_size, strOf_size, List.length_replicate]; omega)
  have e0 : ((strOf r.sv).size : Int) = (nl : Int) := by rw [strOf_size, hnl]
  have e1 : (32 : Int) - (nl : Int) = (cc : Int) := by omega
  have PL := Lib.hid (padS_len 32#8 SVL.out)
  have HCC := Lib.hid (show cc ≤ 1000 by omega)
  clear hnl hcc hle
  obtain ⟨st, hst⟩ : ∃ st, strOf r.sv = st := ⟨_, rfl⟩
  rw [hst] at q7 e0 hcat hcap
  clear hst
  have RP := Lib.hid (fun w => repeat_at cc w HCC.out)
  obtain ⟨rp, hrp⟩ : ∃ rp, strOf (List.replicate cc 32#8) = rp := ⟨_, rfl⟩
  rw [hrp] at hcat hcap RP
  clear hrp
  refine wp_region_planL nowhere [(true, 0), (true, 1), (true, 2), (true, 3), (true, 4), (true, 5), (true, 6), (true, 7), (false, 8), (true, 9)] 10 (by kernel_rfl) (by kernel_rfl) (by intro c a d v w h; cases d <;> exact h) ?_
  intro W1 K1 C1
  repeat (refine wpS_firm rfl (fun K hK => ?_); simp only [Keep]; go_simp; refine hK _ ?_; clear hK K)
  refine wpS_chain rfl ?_
  go_wp2_with (go_at_call 59; go_loud (refine (RP.out _).mono ?_; rintro e w2 ⟨rfl, hb⟩; have C2 := Lib.hid (gr_tr C1.out hb); have K2 := Lib.hid (K1.out.below hb); clear hb))
  refine ⟨K2.out, ?_⟩
  repeat (refine wpS_firm rfl (fun K hK => ?_); simp only [Keep]; go_simp; refine hK _ ?_; clear hK K)
  unfold wpS
  refine wpL_last rfl ?_
  refine copy_str_at rfl (.tmp 36) (.tmp 44) rfl (w.heap.size + 1) G 1024 1024 32 L2 (padS r.sv 32 32#8) rfl rfl (own_below O.out C2.out) (by rw [PL.out]; decide) ?_
  intro w9 ho hg
  rw [HL3.out] at ho
  obtain ⟨V, hV⟩ : ∃ V, V = w9 := ⟨_, rfl⟩
  subst hV
  replace R := Lib.hid ((R.out.below C2.out).other hg (by have := WS.out; omega))
  replace D := Lib.hid ((gr_tr D.out C2.out).grown hg (gr_tr D.out C2.out).size (fun k e => by cases e; have := WS.out; omega))
  clear O
  have O := Lib.hid ho
  clear ho hg C1 K1 C2 K2 PL HCC q7 hs32 hcat hcap RP e0 e1
  go_upto_region 5 with fail
  obtain ⟨c0, c1, c2, c3, c4, c5, c6, c7, c8, c9⟩ := R.out
  simp only [Nat.zero_add] at c0 c1 c2 c3 c4 c5 c6 c7 c8 c9
  have q8 : ∀ y : KeepT nowhere V, y.val.cell? ⟨w.heap.size, 8, none⟩ = some (.string (strOf r.sb)) := fun y => y.cell c8 id
  clear c0 c1 c2 c3 c4 c5 c6 c7 c8 c9
  have hs256 : ∀ w, (Instr.slice 45 (.slice (some ⟨G, 0, none⟩) 1024 1024) (some (.int .i64 256)) none none).run Tryz.prog w = .ok (.slice (some ⟨G, 256, none⟩) 768 768) w := fun w => run_from G 1024 1024 256 (by decide) (by decide) (by decide) (by decide) w
  refine wp_region_planL nowhere [(true, 0), (true, 1), (true, 2), (true, 3)] 4 (by kernel_rfl) (by kernel_rfl) (by intro c a d v w h; cases d <;> exact h) ?_
  intro W1 K1 C1
  repeat (refine wpS_firm rfl (fun K hK => ?_); simp only [Keep]; go_simp; refine hK _ ?_; clear hK K)
  unfold wpS
  refine wpL_last rfl ?_
  refine copy_str_at rfl (.tmp 47) (.tmp 49) rfl (w.heap.size + 1) G 1024 1024 256 L3 r.sb rfl rfl (own_below O.out C1.out) (by have := SBL.out; omega) ?_
  intro w9 ho hg
  rw [HL4.out] at ho
  obtain ⟨V, hV⟩ : ∃ V, V = w9 := ⟨_, rfl⟩
  subst hV
  replace R := Lib.hid ((R.out.below C1.out).other hg (by have := WS.out; omega))
  replace D := Lib.hid ((gr_tr D.out C1.out).grown hg (gr_tr D.out C1.out).size (fun k e => by cases e; have := WS.out; omega))
  clear O
  have O := Lib.hid ho
  clear ho hg C1 K1 q8 hs256
  go_upto_region 6 with fail
  obtain ⟨c0, c1, c2, c3, c4, c5, c6, c7, c8, c9⟩ := R.out
  simp only [Nat.zero_add] at c0 c1 c2 c3 c4 c5 c6 c7 c8 c9
  have q9 : ∀ y : KeepT nowhere V, y.val.cell? ⟨w.heap.size, 9, none⟩ = some (.string (strOf r.ad)) := fun y => y.cell c9 id
  clear c0 c1 c2 c3 c4 c5 c6 c7 c8 c9
  have hs512 : ∀ w, (Instr.slice 45 (.slice (some ⟨G, 0, none⟩) 1024 1024) (some (.int .i64 512)) none none).run Tryz.prog w = .ok (.slice (some ⟨G, 512, none⟩) 512 512) w := fun w => run_from G 1024 1024 512 (by decide) (by decide) (by decide) (by decide) w
  obtain ⟨nl, hnl⟩ : ∃ nl, r.ad.length = nl := ⟨_, rfl⟩
  obtain ⟨cc, hcc⟩ : ∃ cc, 256 - nl = cc := ⟨_, rfl⟩
  have hle : nl ≤ 256 := by rw [← hnl]; exact ADL.out
  have hcat : strOf r.ad ++ strOf (List.replicate cc 32#8) = strOf (padS r.ad 256 32#8) := by rw [strOf_append]; unfold padS; rw [hnl, hcc]
  have hcap : (9223372036854775807 < (strOf r.ad).size + (strOf (List.replicate cc 32#8)).size) = False := eq_false (by rw [strOf_size, strOf_size, List.length_replicate]; omega)
  have e0 : ((strOf r.ad).size : Int) = (nl : Int) := by rw [strOf_size, hnl]
  have e1 : (256 : Int) - (nl : Int) = (cc : Int) := by omega
  have PL := Lib.hid (padS_len 32#8 ADL.out)
  have HCC := Lib.hid (show cc ≤ 1000 by omega)
  clear hnl hcc hle
  obtain ⟨st, hst⟩ : ∃ st, strOf r.ad = st := ⟨_, rfl⟩
  rw [hst] at q9 e0 hcat hcap
  clear hst
  have RP := Lib.hid (fun w => repeat_at cc w HCC.out)
  obtain ⟨rp, hrp⟩ : ∃ rp, strOf (List.replicate cc 32#8) = rp := ⟨_, rfl⟩
  rw [hrp] at hcat hcap RP
  clear hrp
  refine wp_region_planL nowhere [(true, 0), (true, 1), (true, 2), (true, 3), (true, 4), (true, 5), (true, 6), (true, 7), (false, 8), (true, 9)] 10 (by kernel_rfl) (by kernel_rfl) (by intro c a d v w h; cases d <;> exact h) ?_
  intro W1 K1 C1
  repeat (refine wpS_firm rfl (fun K hK => ?_); simp only [Keep]; go_simp; refine hK _ ?_; clear hK K)
  refine wpS_chain rfl ?_
  go_wp2_with (go_at_call 59; go_loud (refine (RP.out _).mono ?_; rintro e w2 ⟨rfl, hb⟩; have C2 := Lib.hid (gr_tr C1.out hb); have K2 := Lib.hid (K1.out.below hb); clear hb))
  refine ⟨K2.out, ?_⟩
  repeat (refine wpS_firm rfl (fun K hK => ?_); simp only [Keep]; go_simp; refine hK _ ?_; clear hK K)
  unfold wpS
  refine wpL_last rfl ?_
  refine copy_str_at rfl (.tmp 52) (.tmp 60) rfl (w.heap.size + 1) G 1024 1024 512 L5 (padS r.ad 256 32#8) rfl rfl (own_below O.out C2.out) (by rw [PL.out]; decide) ?_
  intro w9 ho hg
  rw [PB.out] at ho
  obtain ⟨V, hV⟩ : ∃ V, V = w9 := ⟨_, rfl⟩
  subst hV
  replace R := Lib.hid ((R.out.below C2.out).other hg (by have := WS.out; omega))
  replace D := Lib.hid ((gr_tr D.out C2.out).grown hg (gr_tr D.out C2.out).size (fun k e => by cases e; have := WS.out; omega))
  clear O
  have O := Lib.hid ho
  clear ho hg C1 K1 C2 K2 PL HCC q9 hs512 hcat hcap RP e0 e1
  go_upto_region 7 with fail
  go_wp2
  go_ret
  exact ⟨_, rfl, own_base O.out (by omega), D.out⟩
end Go.Proofs.YtjcgdenkmmgmfaaGreatDoor
