/- identify.namespace: the walk. Printed by genns.py. -/
import Derived.Test.YthnnopjakpjoeaaDoorIdNs
import Derived.Test.YthnnopjakpjoeaaDoorIdList
namespace Go.Proofs.YthnnopjakpjoeaaDoor
open Go.RowKit Idn Go.ChangeShapes Go.WideShapes Go.ChangeAt
set_option linter.unusedVariables false
set_option linter.unusedSimpArgs false
theorem Keep.base2 {base : Nat} {w x x' : World} (h : Keep (fun k => base ≤ k) w x) (hb : Below base x x') : Keep (fun k => base ≤ k) w x' := by
  obtain ⟨y, rfl⟩ := h
  exact ⟨⟨x', Nat.le_trans y.size hb.size, fun k hk hn => (hb.block k (Nat.lt_of_not_le hn)).trans (y.block k hk hn)⟩, rfl⟩
/-- Places that stand in an owned slice. -/
def PlOwn (w : World) (base : Nat) (v : Value) (ps : List Pl) : Prop := w.ownsRow base 224 4 v ps.length (ps.flatMap Pl.cells)
theorem fl_cells_len (ps : List Pl) : (ps.flatMap Pl.cells).length = ps.length * 4 := by
  induction ps with
  | nil => rfl
  | cons p ps ih => rw [List.flatMap_cons, List.length_append, ih, Pl.cells_len, List.length_cons]; omega
theorem PlOwn.slice {w : World} {base : Nat} {v : Value} {ps : List Pl} (h : PlOwn w base v ps) : SliceV w Pl.cells v ps := by
  obtain ⟨h1, h2⟩ := id h
  rcases h2 with ⟨e1, e2⟩ | ⟨g, cap, cur, hv, hg, hh, r1, r2, r3, r4⟩
  · have : ps = [] := List.length_eq_zero_iff.1 e2
    subst this; subst e1; exact ⟨none, 0, rfl, fun _ => rfl, by simp, by simp, .inl rfl⟩
  · subst hv
    refine ⟨_, cap, rfl, (by simp), r1, r2, .inr ⟨g, 0, rfl, fun i hi => ?_⟩⟩
    rw [Nat.zero_add, cell_of_row _ _ i _ _ _ hh]
    rw [fl_cells_len] at hi
    rw [← Array.getElem?_toList, ← List.getElem?_take_of_lt hi, r4]
theorem PlOwn.lit (w : World) (ps : List Pl) (cs : Array Value) (hcs : cs.toList = ps.flatMap Pl.cells) (hm : ps.length ≤ 1000) : PlOwn (w.alloc (.cells cs 224)) w.heap.size (.slice (some ⟨w.heap.size, 0, none⟩) ps.length ps.length) ps := by
  have hsz : cs.size = ps.length * 4 := by rw [← Array.length_toList, hcs, fl_cells_len]
  refine ⟨fl_cells_len ps, .inr ⟨w.heap.size, ps.length, cs, rfl, Nat.le_refl _, heap_alloc_new w _, Nat.le_refl _, by unfold maxLen; omega, hsz, ?_⟩⟩
  rw [List.take_of_length_le (by rw [Array.length_toList, hsz]; omega), hcs]
theorem PlOwn.below {w w' : World} {base : Nat} {v : Value} {ps : List Pl} (h : PlOwn w base v ps) (hb : Below w.heap.size w w') : PlOwn w' base v ps := own_below h hb
theorem pl_one (ps : List Pl) : ∀ u ∈ ps.flatMap Pl.cells, u.oneCell' = true := by
  intro u hu
  obtain ⟨p, _, hp⟩ := List.mem_flatMap.1 hu
  have := p.cells_one
  rw [List.all_toArray, List.all_eq_true] at this
  exact this u hp
/-- 'append(own, ps...)' of places. -/
theorem app_places {ops : Array Oper} {rest : List Oper} {o : Oper} {a : Act} {Q : Exit → Act → World → Prop} {W : World} (hgd : o.guard = none) (s x : Operand) (ho : o.op = .call { callee := .builtin .append, args := #[s, x], argTypes := #[152, 152] })
    (base : Nat) (v : Value) (ps : List Pl) (hs : a.eval s = v) (hown : PlOwn W base v ps) (hbase : base ≤ W.heap.size)
    (u : Value) (qs : List Pl) (hx : a.eval x = u) (hv : SliceV W Pl.cells u qs) (hl : ps.length + qs.length ≤ 1000)
    (h : ∀ v' w', PlOwn w' base v' (ps ++ qs) → Below base W w' → W.grownBy w' v.ownBlock → wpList Tryd.prog ops Q rest (a.put o.dst v') w') : wpList Tryd.prog ops Q (o :: rest) a W := by
  obtain ⟨ad, c, rfl, n1, n2, n3, n4⟩ := hv
  refine app_law placesOk hgd s x ho base v ps.length (ps.flatMap Pl.cells) hs hown ad qs.length c (qs.flatMap Pl.cells) hx n1 n2 n4 (fl_cells_len qs) (pl_one qs) (by omega) (by omega) hbase ?_
  intro v' w' ho' hg' _
  refine h v' w' ?_ ((Below.refl base W).grown hg' hbase (fun k hk => (hown.lt k hk).1)) hg'
  unfold PlOwn; rw [List.length_append, List.flatMap_append]; exact ho'
theorem kd_ptr (k : Kd) : k.ptr ≠ 224 := by cases k <;> decide
/-- An append onto places leaves the places' own cells alone. -/
theorem ps_grown {w w' : World} {base X : Nat} {ps qs : List Pl} {v : Value} (h : PsOk w base X ps) (ho : PlOwn w base v qs) (hg : w.grownBy w' v.ownBlock) : PsOk w' base X ps := by
  intro p hp
  obtain ⟨h1, h2, h3⟩ := h p hp
  refine ⟨?_, h2, h3⟩
  have hlt := (Array.getElem?_eq_some_iff.1 h1).1
  refine (hg.block p.box hlt (fun e => ?_)).trans h1
  obtain ⟨_, h4⟩ := ho
  rcases h4 with ⟨rfl, _⟩ | ⟨g, cap, cur, rfl, hg2, hh, _⟩
  · simp [Value.ownBlock] at e
  · simp [Value.ownBlock] at e
    rw [← e, h1] at hh
    injection hh with hh
    injection hh with _ ht _
    exact kd_ptr p.k ht
theorem ps_more {w : World} {base X : Nat} {ps qs : List Pl} (h : PsOk w base X ps) (k : PsOk w base X qs) : PsOk w base X (ps ++ qs) := by
  intro p hp
  rcases List.mem_append.1 hp with hp | hp
  · exact h p hp
  · exact k p hp
theorem take_spec (k : Nat) (h : k < 80) : ∃ s, nsSpec[k]? = some s ∧ nsSpec.take (k + 1) = nsSpec.take k ++ [s] := by
  obtain ⟨s, hs, _⟩ := nsSpec_at k h
  obtain ⟨h1, h2⟩ := List.getElem?_eq_some_iff.1 hs
  exact ⟨s, hs, by rw [List.take_succ_eq_append_getElem h1, h2]⟩
instance : DecidableEq Kd := fun a b => by cases a <;> cases b <;> first | exact isTrue rfl | exact isFalse (by intro h; cases h)
theorem spec_guid : ∀ k, k < 16 → nsSpec.take (16 + (k + 1)) = nsSpec.take (16 + k) ++ [(104 + k, .u8, 16 + k)] := by decide +kernel
theorem spec_block : ∀ k, k < 16 → nsSpec.take (32 + 3 * (k + 1)) = nsSpec.take (32 + 3 * k) ++ [(128 + 4 * k, .u16, 32 + 3 * k), (130 + 4 * k, .u8, 32 + 3 * k + 1), (131 + 4 * k, .u8, 32 + 3 * k + 2)] := by decide +kernel
theorem offNs : offOk Tryd.prog 71 [0, 1, 2, 3, 4, 5, 6, 7, 8, 9, 10, 11, 12, 13, 14, 15] = true := by kernel_rfl
set_option maxHeartbeats 6400000 in
set_option maxRecDepth 100000 in
theorem namespace_any (X : Nat) (w : World) :
    Calls Tryd.prog 87 #[.pointer (some ⟨X, 0, none⟩)] w fun e w' => ∃ pv ps, e = .returned pv ∧ SliceV w' Pl.cells pv ps ∧ ps.map key = nsSpec ∧ PsOk w' w.heap.size X ps ∧ NewS w.heap.size pv ∧ Below w.heap.size w w' := by
  obtain ⟨ie, i1, i2, i3, -⟩ := placesOk.info
  have I1 := Lib.hid i1; have I2 := Lib.hid i2; have I3 := Lib.hid i3
  clear i1 i2 i3
  go_enter Tryd.func87, Tryd.ntmps87
  go_upto_region 1 with (fail)
  go_cut [3] (fun v wx => ∃ ps : List Pl, PlOwn wx w.heap.size v ps ∧ ps.map key = nsSpec.take 16 ∧ PsOk wx w.heap.size X ps ∧ Below w.heap.size w wx)
  case first =>
    refine wp_region_planWF nowhere (([0, 1, 2, 4, 5, 6, 8, 9, 10, 12, 13, 14, 16, 17, 18, 20, 21, 22, 24, 25, 26, 28, 29, 30, 32, 33, 34, 36, 37, 38, 40, 41, 42, 44, 45, 46, 48, 49, 50, 52, 53, 54, 56, 57, 58, 60, 61, 62] : List Nat).map (fun i => (true, i)) ++ [(false, 3), (false, 7), (false, 11), (false, 15), (false, 19), (false, 23), (false, 27), (false, 31), (false, 35), (false, 39), (false, 43), (false, 47), (false, 51), (false, 55), (false, 59), (false, 63), (false, 64), (true, 65)]) (by kernel_rfl) (by kernel_rfl) (by kernel_rfl) (by kernel_rfl) (by intro c a d v w h; cases d <;> exact h) ?_
    intro W1 K D
    have PS := Lib.hid (PsOk.nil W1 w.heap.size X)
    refine wpS_run 71 [0, 1, 2, 3, 4, 5, 6, 7, 8, 9, 10, 11, 12, 13, 14, 15] offNs [0, 1, 2, 4, 5, 6, 8, 9, 10, 12, 13, 14, 16, 17, 18, 20, 21, 22, 24, 25, 26, 28, 29, 30, 32, 33, 34, 36, 37, 38, 40, 41, 42, 44, 45, 46, 48, 49, 50, 52, 53, 54, 56, 57, 58, 60, 61, 62] _ ⟨#[.pointer (some ⟨X, 0, none⟩), undef, .slice none 0 0, undef, undef, undef, undef, .pointer (some ⟨X, 0, none⟩), .pointer (some ⟨X, 0, none⟩), .pointer (some ⟨X, 0, none⟩), undef, .pointer (some ⟨X, 0, none⟩), .pointer (some ⟨X, 0, none⟩), .pointer (some ⟨X, 1, none⟩), undef, .pointer (some ⟨X, 0, none⟩), .pointer (some ⟨X, 0, none⟩), .pointer (some ⟨X, 2, none⟩), undef, .pointer (some ⟨X, 0, none⟩), .pointer (some ⟨X, 0, none⟩), .pointer (some ⟨X, 3, none⟩), undef, .pointer (some ⟨X, 0, none⟩), .pointer (some ⟨X, 0, none⟩), .pointer (some ⟨X, 4, none⟩), undef, .pointer (some ⟨X, 0, none⟩), .pointer (some ⟨X, 0, none⟩), .pointer (some ⟨X, 5, none⟩), undef, .pointer (some ⟨X, 0, none⟩), .pointer (some ⟨X, 0, none⟩), .pointer (some ⟨X, 6, none⟩), undef, .pointer (some ⟨X, 0, none⟩), .pointer (some ⟨X, 0, none⟩), .pointer (some ⟨X, 7, none⟩), undef, .pointer (some ⟨X, 0, none⟩), .pointer (some ⟨X, 0, none⟩), .pointer (some ⟨X, 8, none⟩), undef, .pointer (some ⟨X, 0, none⟩), .pointer (some ⟨X, 0, none⟩), .pointer (some ⟨X, 9, none⟩), undef, .pointer (some ⟨X, 0, none⟩), .pointer (some ⟨X, 0, none⟩), .pointer (some ⟨X, 10, none⟩), undef, .pointer (some ⟨X, 0, none⟩), .pointer (some ⟨X, 0, none⟩), .pointer (some ⟨X, 11, none⟩), undef, .pointer (some ⟨X, 0, none⟩), .pointer (some ⟨X, 0, none⟩), .pointer (some ⟨X, 12, none⟩), undef, .pointer (some ⟨X, 0, none⟩), .pointer (some ⟨X, 0, none⟩), .pointer (some ⟨X, 13, none⟩), undef, .pointer (some ⟨X, 0, none⟩), .pointer (some ⟨X, 0, none⟩), .pointer (some ⟨X, 14, none⟩), undef, .pointer (some ⟨X, 0, none⟩), .pointer (some ⟨X, 0, none⟩), .pointer (some ⟨X, 15, none⟩), undef, undef, undef, undef, undef, undef, undef, undef, undef, undef, undef, undef, undef, undef, undef, undef, undef, undef, undef, undef, undef, undef, undef, undef, undef, undef, undef, undef, undef, undef, undef, undef, undef, undef, undef, undef, undef, undef, undef, undef, undef, undef, undef, undef, undef, undef, undef, undef, undef, undef, undef], []⟩ (by kernel_rfl) ?_
    refine wpS_chain rfl ?_
    go_wp2_with (go_at_call 142; go_loud (refine (at_u64 X 0 0 _).mono ?_; rintro r W2 ⟨b0, rfl, hb, hok, hw⟩; replace PS := Lib.hid (PS.out.snoc hw hok (Nat.le_trans D.out.size hb) rfl); replace D := Lib.hid (gr_tr D.out hw); replace K := Lib.hid (K.out.below hw); clear hb hok hw))
    refine ⟨K.out, ?_⟩
    refine wpS_chain rfl ?_
    go_wp2_with (go_at_call 142; go_loud (refine (at_u64 X 1 8 _).mono ?_; rintro r W3 ⟨b1, rfl, hb, hok, hw⟩; replace PS := Lib.hid (PS.out.snoc hw hok (Nat.le_trans D.out.size hb) rfl); replace D := Lib.hid (gr_tr D.out hw); replace K := Lib.hid (K.out.below hw); clear hb hok hw))
    refine ⟨K.out, ?_⟩
    refine wpS_chain rfl ?_
    go_wp2_with (go_at_call 142; go_loud (refine (at_u64 X 2 16 _).mono ?_; rintro r W4 ⟨b2, rfl, hb, hok, hw⟩; replace PS := Lib.hid (PS.out.snoc hw hok (Nat.le_trans D.out.size hb) rfl); replace D := Lib.hid (gr_tr D.out hw); replace K := Lib.hid (K.out.below hw); clear hb hok hw))
    refine ⟨K.out, ?_⟩
    refine wpS_chain rfl ?_
    go_wp2_with (go_at_call 131; go_loud (refine (at_u8 X 3 24 _).mono ?_; rintro r W5 ⟨b3, rfl, hb, hok, hw⟩; replace PS := Lib.hid (PS.out.snoc hw hok (Nat.le_trans D.out.size hb) rfl); replace D := Lib.hid (gr_tr D.out hw); replace K := Lib.hid (K.out.below hw); clear hb hok hw))
    refine ⟨K.out, ?_⟩
    refine wpS_chain rfl ?_
    go_wp2_with (go_at_call 131; go_loud (refine (at_u8 X 4 25 _).mono ?_; rintro r W6 ⟨b4, rfl, hb, hok, hw⟩; replace PS := Lib.hid (PS.out.snoc hw hok (Nat.le_trans D.out.size hb) rfl); replace D := Lib.hid (gr_tr D.out hw); replace K := Lib.hid (K.out.below hw); clear hb hok hw))
    refine ⟨K.out, ?_⟩
    refine wpS_chain rfl ?_
    go_wp2_with (go_at_call 131; go_loud (refine (at_u8 X 5 26 _).mono ?_; rintro r W7 ⟨b5, rfl, hb, hok, hw⟩; replace PS := Lib.hid (PS.out.snoc hw hok (Nat.le_trans D.out.size hb) rfl); replace D := Lib.hid (gr_tr D.out hw); replace K := Lib.hid (K.out.below hw); clear hb hok hw))
    refine ⟨K.out, ?_⟩
    refine wpS_chain rfl ?_
    go_wp2_with (go_at_call 131; go_loud (refine (at_u8 X 6 27 _).mono ?_; rintro r W8 ⟨b6, rfl, hb, hok, hw⟩; replace PS := Lib.hid (PS.out.snoc hw hok (Nat.le_trans D.out.size hb) rfl); replace D := Lib.hid (gr_tr D.out hw); replace K := Lib.hid (K.out.below hw); clear hb hok hw))
    refine ⟨K.out, ?_⟩
    refine wpS_chain rfl ?_
    go_wp2_with (go_at_call 131; go_loud (refine (at_u8 X 7 28 _).mono ?_; rintro r W9 ⟨b7, rfl, hb, hok, hw⟩; replace PS := Lib.hid (PS.out.snoc hw hok (Nat.le_trans D.out.size hb) rfl); replace D := Lib.hid (gr_tr D.out hw); replace K := Lib.hid (K.out.below hw); clear hb hok hw))
    refine ⟨K.out, ?_⟩
    refine wpS_chain rfl ?_
    go_wp2_with (go_at_call 131; go_loud (refine (at_u8 X 8 29 _).mono ?_; rintro r W10 ⟨b8, rfl, hb, hok, hw⟩; replace PS := Lib.hid (PS.out.snoc hw hok (Nat.le_trans D.out.size hb) rfl); replace D := Lib.hid (gr_tr D.out hw); replace K := Lib.hid (K.out.below hw); clear hb hok hw))
    refine ⟨K.out, ?_⟩
    refine wpS_chain rfl ?_
    go_wp2_with (go_at_call 131; go_loud (refine (at_u8 X 9 30 _).mono ?_; rintro r W11 ⟨b9, rfl, hb, hok, hw⟩; replace PS := Lib.hid (PS.out.snoc hw hok (Nat.le_trans D.out.size hb) rfl); replace D := Lib.hid (gr_tr D.out hw); replace K := Lib.hid (K.out.below hw); clear hb hok hw))
    refine ⟨K.out, ?_⟩
    refine wpS_chain rfl ?_
    go_wp2_with (go_at_call 131; go_loud (refine (at_u8 X 10 31 _).mono ?_; rintro r W12 ⟨b10, rfl, hb, hok, hw⟩; replace PS := Lib.hid (PS.out.snoc hw hok (Nat.le_trans D.out.size hb) rfl); replace D := Lib.hid (gr_tr D.out hw); replace K := Lib.hid (K.out.below hw); clear hb hok hw))
    refine ⟨K.out, ?_⟩
    refine wpS_chain rfl ?_
    go_wp2_with (go_at_call 130; go_loud (refine (at_u16 X 11 34 _).mono ?_; rintro r W13 ⟨b11, rfl, hb, hok, hw⟩; replace PS := Lib.hid (PS.out.snoc hw hok (Nat.le_trans D.out.size hb) rfl); replace D := Lib.hid (gr_tr D.out hw); replace K := Lib.hid (K.out.below hw); clear hb hok hw))
    refine ⟨K.out, ?_⟩
    refine wpS_chain rfl ?_
    go_wp2_with (go_at_call 130; go_loud (refine (at_u16 X 12 36 _).mono ?_; rintro r W14 ⟨b12, rfl, hb, hok, hw⟩; replace PS := Lib.hid (PS.out.snoc hw hok (Nat.le_trans D.out.size hb) rfl); replace D := Lib.hid (gr_tr D.out hw); replace K := Lib.hid (K.out.below hw); clear hb hok hw))
    refine ⟨K.out, ?_⟩
    refine wpS_chain rfl ?_
    go_wp2_with (go_at_call 130; go_loud (refine (at_u16 X 13 38 _).mono ?_; rintro r W15 ⟨b13, rfl, hb, hok, hw⟩; replace PS := Lib.hid (PS.out.snoc hw hok (Nat.le_trans D.out.size hb) rfl); replace D := Lib.hid (gr_tr D.out hw); replace K := Lib.hid (K.out.below hw); clear hb hok hw))
    refine ⟨K.out, ?_⟩
    refine wpS_chain rfl ?_
    go_wp2_with (go_at_call 126; go_loud (refine (at_u32 X 14 92 _).mono ?_; rintro r W16 ⟨b14, rfl, hb, hok, hw⟩; replace PS := Lib.hid (PS.out.snoc hw hok (Nat.le_trans D.out.size hb) rfl); replace D := Lib.hid (gr_tr D.out hw); replace K := Lib.hid (K.out.below hw); clear hb hok hw))
    refine ⟨K.out, ?_⟩
    refine wpS_chain rfl ?_
    go_wp2_with (go_at_call 142; go_loud (refine (at_u64 X 15 120 _).mono ?_; rintro r W17 ⟨b15, rfl, hb, hok, hw⟩; replace PS := Lib.hid (PS.out.snoc hw hok (Nat.le_trans D.out.size hb) rfl); replace D := Lib.hid (gr_tr D.out hw); replace K := Lib.hid (K.out.below hw); clear hb hok hw))
    refine ⟨K.out, ?_⟩
    refine wpS_chain rfl ?_
    refine wpList_buildSlice rfl 152 224 16 _ rfl ((([⟨0, .u64, X, 0, b0⟩, ⟨8, .u64, X, 1, b1⟩, ⟨16, .u64, X, 2, b2⟩, ⟨24, .u8, X, 3, b3⟩, ⟨25, .u8, X, 4, b4⟩, ⟨26, .u8, X, 5, b5⟩, ⟨27, .u8, X, 6, b6⟩, ⟨28, .u8, X, 7, b7⟩, ⟨29, .u8, X, 8, b8⟩, ⟨30, .u8, X, 9, b9⟩, ⟨31, .u8, X, 10, b10⟩, ⟨34, .u16, X, 11, b11⟩, ⟨36, .u16, X, 12, b12⟩, ⟨38, .u16, X, 13, b13⟩, ⟨92, .u32, X, 14, b14⟩, ⟨120, .u64, X, 15, b15⟩] : List Pl).flatMap Pl.cells).toArray) ie _ placesOk.under I1.out I2.out (by rw [I3.out]; decide) (by rw [I3.out]; decide) (by rw [I3.out]; kernel_rfl) ?_
    have DSZ := Lib.hid D.out.size
    have PO := Lib.hid (own_base (PlOwn.lit W17 [⟨0, .u64, X, 0, b0⟩, ⟨8, .u64, X, 1, b1⟩, ⟨16, .u64, X, 2, b2⟩, ⟨24, .u8, X, 3, b3⟩, ⟨25, .u8, X, 4, b4⟩, ⟨26, .u8, X, 5, b5⟩, ⟨27, .u8, X, 6, b6⟩, ⟨28, .u8, X, 7, b7⟩, ⟨29, .u8, X, 8, b8⟩, ⟨30, .u8, X, 9, b9⟩, ⟨31, .u8, X, 10, b10⟩, ⟨34, .u16, X, 11, b11⟩, ⟨36, .u16, X, 12, b12⟩, ⟨38, .u16, X, 13, b13⟩, ⟨92, .u32, X, 14, b14⟩, ⟨120, .u64, X, 15, b15⟩] ((([⟨0, .u64, X, 0, b0⟩, ⟨8, .u64, X, 1, b1⟩, ⟨16, .u64, X, 2, b2⟩, ⟨24, .u8, X, 3, b3⟩, ⟨25, .u8, X, 4, b4⟩, ⟨26, .u8, X, 5, b5⟩, ⟨27, .u8, X, 6, b6⟩, ⟨28, .u8, X, 7, b7⟩, ⟨29, .u8, X, 8, b8⟩, ⟨30, .u8, X, 9, b9⟩, ⟨31, .u8, X, 10, b10⟩, ⟨34, .u16, X, 11, b11⟩, ⟨36, .u16, X, 12, b12⟩, ⟨38, .u16, X, 13, b13⟩, ⟨92, .u32, X, 14, b14⟩, ⟨120, .u64, X, 15, b15⟩] : List Pl).flatMap Pl.cells).toArray) rfl (show 16 ≤ 1000 by decide)) D.out.size)
    replace PS := Lib.hid (PS.out.below (gr_alloc W17 (.cells ((([⟨0, .u64, X, 0, b0⟩, ⟨8, .u64, X, 1, b1⟩, ⟨16, .u64, X, 2, b2⟩, ⟨24, .u8, X, 3, b3⟩, ⟨25, .u8, X, 4, b4⟩, ⟨26, .u8, X, 5, b5⟩, ⟨27, .u8, X, 6, b6⟩, ⟨28, .u8, X, 7, b7⟩, ⟨29, .u8, X, 8, b8⟩, ⟨30, .u8, X, 9, b9⟩, ⟨31, .u8, X, 10, b10⟩, ⟨34, .u16, X, 11, b11⟩, ⟨36, .u16, X, 12, b12⟩, ⟨38, .u16, X, 13, b13⟩, ⟨92, .u32, X, 14, b14⟩, ⟨120, .u64, X, 15, b15⟩] : List Pl).flatMap Pl.cells).toArray) 224)))
    replace D := Lib.hid (gr_tr D.out (gr_alloc W17 (.cells ((([⟨0, .u64, X, 0, b0⟩, ⟨8, .u64, X, 1, b1⟩, ⟨16, .u64, X, 2, b2⟩, ⟨24, .u8, X, 3, b3⟩, ⟨25, .u8, X, 4, b4⟩, ⟨26, .u8, X, 5, b5⟩, ⟨27, .u8, X, 6, b6⟩, ⟨28, .u8, X, 7, b7⟩, ⟨29, .u8, X, 8, b8⟩, ⟨30, .u8, X, 9, b9⟩, ⟨31, .u8, X, 10, b10⟩, ⟨34, .u16, X, 11, b11⟩, ⟨36, .u16, X, 12, b12⟩, ⟨38, .u16, X, 13, b13⟩, ⟨92, .u32, X, 14, b14⟩, ⟨120, .u64, X, 15, b15⟩] : List Pl).flatMap Pl.cells).toArray) 224)))
    replace K := Lib.hid (K.out.below (gr_alloc W17 (.cells ((([⟨0, .u64, X, 0, b0⟩, ⟨8, .u64, X, 1, b1⟩, ⟨16, .u64, X, 2, b2⟩, ⟨24, .u8, X, 3, b3⟩, ⟨25, .u8, X, 4, b4⟩, ⟨26, .u8, X, 5, b5⟩, ⟨27, .u8, X, 6, b6⟩, ⟨28, .u8, X, 7, b7⟩, ⟨29, .u8, X, 8, b8⟩, ⟨30, .u8, X, 9, b9⟩, ⟨31, .u8, X, 10, b10⟩, ⟨34, .u16, X, 11, b11⟩, ⟨36, .u16, X, 12, b12⟩, ⟨38, .u16, X, 13, b13⟩, ⟨92, .u32, X, 14, b14⟩, ⟨120, .u64, X, 15, b15⟩] : List Pl).flatMap Pl.cells).toArray) 224)))
    generalize (World.alloc W17 (.cells ((([⟨0, .u64, X, 0, b0⟩, ⟨8, .u64, X, 1, b1⟩, ⟨16, .u64, X, 2, b2⟩, ⟨24, .u8, X, 3, b3⟩, ⟨25, .u8, X, 4, b4⟩, ⟨26, .u8, X, 5, b5⟩, ⟨27, .u8, X, 6, b6⟩, ⟨28, .u8, X, 7, b7⟩, ⟨29, .u8, X, 8, b8⟩, ⟨30, .u8, X, 9, b9⟩, ⟨31, .u8, X, 10, b10⟩, ⟨34, .u16, X, 11, b11⟩, ⟨36, .u16, X, 12, b12⟩, ⟨38, .u16, X, 13, b13⟩, ⟨92, .u32, X, 14, b14⟩, ⟨120, .u64, X, 15, b15⟩] : List Pl).flatMap Pl.cells).toArray) 224)) = WE at *
    obtain ⟨pv, hpv⟩ : ∃ pv, Value.slice (some ⟨World.heap W17 |>.size, 0, none⟩) 16 16 = pv := ⟨_, rfl⟩
    have PO2 := Lib.hid (show PlOwn WE w.heap.size pv [⟨0, .u64, X, 0, b0⟩, ⟨8, .u64, X, 1, b1⟩, ⟨16, .u64, X, 2, b2⟩, ⟨24, .u8, X, 3, b3⟩, ⟨25, .u8, X, 4, b4⟩, ⟨26, .u8, X, 5, b5⟩, ⟨27, .u8, X, 6, b6⟩, ⟨28, .u8, X, 7, b7⟩, ⟨29, .u8, X, 8, b8⟩, ⟨30, .u8, X, 9, b9⟩, ⟨31, .u8, X, 10, b10⟩, ⟨34, .u16, X, 11, b11⟩, ⟨36, .u16, X, 12, b12⟩, ⟨38, .u16, X, 13, b13⟩, ⟨92, .u32, X, 14, b14⟩, ⟨120, .u64, X, 15, b15⟩] from hpv ▸ PO.out)
    rw [hpv]
    clear hpv PO
    refine ⟨K.out, ?_⟩
    refine wpS_run (r := []) 71 [0, 1, 2, 3, 4, 5, 6, 7, 8, 9, 10, 11, 12, 13, 14, 15] offNs [65] _ _ rfl ?_
    unfold wpS
    go_wp2
    go_meet
    have hps := PS.out
    simp only [List.nil_append, List.cons_append] at hps
    exact ⟨_, PO2.out, rfl, hps, D.out⟩
  obtain ⟨ps0, ho, hk, hp, hb⟩ := hcut
  obtain ⟨w0, e0⟩ : ∃ z, z = wc := ⟨_, rfl⟩
  subst e0
  have O0 := Lib.hid ho; have K0 := Lib.hid hk; have P0 := Lib.hid hp; have B0 := Lib.hid hb
  clear ho hk hp hb
  go_wp2
  go_loopw [3, 72] (fun v i wr => ∃ (k : Nat) (ps : List Pl), k ≤ 16 ∧ i = .int .i64 k ∧ PlOwn wr w.heap.size v ps ∧ Hid (ps.map key = nsSpec.take (16 + k)) ∧ PsOk wr w.heap.size X ps ∧ Below w.heap.size w wr) (fun _ i _ => 16 - (intOf i).toNat)
  case atStart => exact ⟨0, ps0, by omega, rfl, O0.out, K0.out, P0.out, B0.out⟩
  case round =>
    obtain ⟨k, ps, hk, rfl, ho, KEY, hp, hb⟩ := hrel
    have OW := Lib.hid ho; have PW := Lib.hid hp; have BW := Lib.hid hb
    clear ho hp hb
    by_cases hlt : k < 16
    · have hkb : (k : Int) ≤ 15 := by omega
      have HK := Lib.hid hlt
      have HPL := Lib.hid (show ps.length = 16 + k by have := congrArg List.length KEY.out; rw [List.length_map, List.length_take, nsSpec_len] at this; omega)
      have H104 := Lib.hid (show (0 : Int) ≤ 104 + (k : Int) by omega)
      go_wp2_with (first
        | (go_at_call 131; go_loud (rw [show (104 : Int) + (k : Int) = ((104 + k : Nat) : Int) by omega]; refine (at_u8 X (16 + k) (104 + k) _).mono ?_; rintro r w3 ⟨bx, rfl, hbx, hok, hw⟩; have OKP := Lib.hid hok; have HBX := Lib.hid (Nat.le_trans BW.out.size hbx); have O3 := Lib.hid (OW.out.below hw); have P3 := Lib.hid (PW.out.below hw); have B3 := Lib.hid (gr_tr BW.out hw); clear hbx hok hw))
        | (refine wpList_buildSlice rfl 152 224 1 _ rfl (([⟨104 + k, .u8, X, 16 + k, bx⟩] : List Pl).flatMap Pl.cells).toArray ie _ placesOk.under I1.out I2.out (by rw [I3.out]; decide) (by rw [I3.out]; decide) (by rw [I3.out]; kernel_rfl) ?_; have SV := Lib.hid (SliceV.of_cells (f := Pl.cells) w3 [(⟨104 + k, .u8, X, 16 + k, bx⟩ : Pl)] ((([⟨104 + k, .u8, X, 16 + k, bx⟩] : List Pl).flatMap Pl.cells).toArray) 224 1 rfl (by omega) rfl); have G4 := Lib.hid (gr_alloc w3 (.cells ((([⟨104 + k, .u8, X, 16 + k, bx⟩] : List Pl).flatMap Pl.cells).toArray) 224)))
        | (at_builtin; go_loud (refine app_places rfl (.tmp 75) (.tmp 84) rfl w.heap.size _ ps rfl (O3.out.below G4.out) (Nat.le_trans B3.out.size G4.out.size) _ _ rfl SV.out (by have := HPL.out; simp; omega) ?_; intro v5 w5 ho hb hg; have O5 := Lib.hid ho; have B5 := Lib.hid ((gr_tr B3.out G4.out).trans hb); have P5 := Lib.hid (ps_grown (Idn.PsOk.below (ps_more P3.out (show PsOk w3 w.heap.size X [(⟨104 + k, .u8, X, 16 + k, bx⟩ : Pl)] from fun p hp => by simp at hp; subst hp; exact ⟨OKP.out, HBX.out, rfl⟩)) G4.out) (O3.out.below G4.out) hg); clear ho hb hg)))
      go_roundw
      case rel => exact ⟨k + 1, _, by omega, by go_num, O5.out, Lib.hid (by rw [List.map_append, KEY.out, spec_guid k HK.out]; simp [key]), P5.out, B5.out⟩
      case measure => simp [intOf]; omega
    · obtain rfl : k = 16 := by omega
      rw [show ((16 : Nat) : Int) = 16 from rfl]
      clear O0 K0 P0 B0
      go_wp2
      go_loopw [3, 87] (fun v i wx => ∃ (k : Nat) (ps : List Pl), k ≤ 16 ∧ i = .int .i64 k ∧ PlOwn wx w.heap.size v ps ∧ Hid (ps.map key = nsSpec.take (32 + 3 * k)) ∧ PsOk wx w.heap.size X ps ∧ Below w.heap.size w wx) (fun _ i _ => 16 - (intOf i).toNat)
      case atStart => exact ⟨0, ps, by omega, rfl, OW.out, KEY, PW.out, BW.out⟩
      case round =>
        clear OW PW BW KEY
        obtain ⟨k, qs, hk, rfl, ho, KEY, hp, hb⟩ := hrel
        have OW := Lib.hid ho; have PW := Lib.hid hp; have BW := Lib.hid hb
        clear ho hp hb
        by_cases hlt : k < 16
        · have hkb : (k : Int) ≤ 15 := by omega
          have HK := Lib.hid hlt
          have HPL := Lib.hid (show qs.length = 32 + 3 * k by have := congrArg List.length KEY.out; rw [List.length_map, List.length_take, nsSpec_len] at this; omega)
          have H128 := Lib.hid (show (0 : Int) ≤ 128 + 4 * (k : Int) by omega)
          have H130 := Lib.hid (show (0 : Int) ≤ 130 + 4 * (k : Int) by omega)
          have H131 := Lib.hid (show (0 : Int) ≤ 131 + 4 * (k : Int) by omega)
          have hs0 : IntKind.i64.wrap (4 * (k : Int)) = 4 * (k : Int) := IntWalk.i64_in _ (by omega)
          have hs1 : IntKind.i64.wrap (128 + 4 * (k : Int)) = 128 + 4 * (k : Int) := IntWalk.i64_in _ (by omega)
          have hs2 : IntKind.i64.wrap (130 + 4 * (k : Int)) = 130 + 4 * (k : Int) := IntWalk.i64_in _ (by omega)
          have hs3 : IntKind.i64.wrap (131 + 4 * (k : Int)) = 131 + 4 * (k : Int) := IntWalk.i64_in _ (by omega)
          go_upto_region 11 with (fail)
          refine wp_region_planW (fun b => w.heap.size ≤ b) [(true, 0), (true, 1), (true, 2), (true, 3), (true, 4), (true, 5), (true, 6), (true, 8), (true, 9), (true, 10), (true, 11), (true, 12), (true, 13), (true, 15), (true, 16), (true, 17), (true, 18), (true, 19), (true, 20), (false, 7), (false, 14), (false, 21), (false, 22), (false, 23), (true, 24)] (by kernel_rfl) (by kernel_rfl) (by intro c a d v w h; cases d <;> exact h) ?_
          intro W1 K1 C1
          repeat (refine wpS_firm rfl (fun K hK => ?_); simp only [Keep]; go_simp; refine hK _ ?_; clear hK K)
          refine wpS_chain rfl ?_
          go_wp2_with (go_at_call 130; go_loud (rw [show (128 : Int) + 4 * (k : Int) = ((128 + 4 * k : Nat) : Int) by omega]; refine (at_u16 X (32 + k * 3) (128 + 4 * k) _).mono ?_; rintro r w2 ⟨b0, rfl, hbx, hok, hw⟩; have OKP0 := Lib.hid hok; have HBX0 := Lib.hid hbx; have K2 := Lib.hid (K1.out.below hw); have C2 := Lib.hid (gr_tr C1.out hw); have D2 := Lib.hid hw; clear hbx hok hw))
          refine ⟨K2.out, ?_⟩
          refine wpS_chain rfl ?_
          go_wp2_with (go_at_call 131; go_loud (rw [show (130 : Int) + 4 * (k : Int) = ((130 + 4 * k : Nat) : Int) by omega]; refine (at_u8 X (32 + k * 3 + 1) (130 + 4 * k) _).mono ?_; rintro r w3 ⟨b1, rfl, hbx, hok, hw⟩; have OKP1 := Lib.hid hok; have HBX1 := Lib.hid hbx; have K3 := Lib.hid (K2.out.below hw); have C3 := Lib.hid (gr_tr C2.out hw); have D3 := Lib.hid hw; clear hbx hok hw))
          refine ⟨K3.out, ?_⟩
          refine wpS_chain rfl ?_
          go_wp2_with (go_at_call 131; go_loud (rw [show (131 : Int) + 4 * (k : Int) = ((131 + 4 * k : Nat) : Int) by omega]; refine (at_u8 X (32 + k * 3 + 2) (131 + 4 * k) _).mono ?_; rintro r w4 ⟨b2, rfl, hbx, hok, hw⟩; have OKP2 := Lib.hid hok; have HBX2 := Lib.hid hbx; have K4 := Lib.hid (K3.out.below hw); have C4 := Lib.hid (gr_tr C3.out hw); have D4 := Lib.hid hw; clear hbx hok hw))
          refine ⟨K4.out, ?_⟩
          refine wpS_chain rfl ?_
          refine wpList_buildSlice rfl 152 224 3 _ rfl (([⟨128 + 4 * k, .u16, X, 32 + k * 3, b0⟩, ⟨130 + 4 * k, .u8, X, 32 + k * 3 + 1, b1⟩, ⟨131 + 4 * k, .u8, X, 32 + k * 3 + 2, b2⟩] : List Pl).flatMap Pl.cells).toArray ie _ placesOk.under I1.out I2.out (by rw [I3.out]; decide) (by rw [I3.out]; decide) (by rw [I3.out]; kernel_rfl) ?_
          have SV := Lib.hid (SliceV.of_cells (f := Pl.cells) w4 ([⟨128 + 4 * k, .u16, X, 32 + k * 3, b0⟩, ⟨130 + 4 * k, .u8, X, 32 + k * 3 + 1, b1⟩, ⟨131 + 4 * k, .u8, X, 32 + k * 3 + 2, b2⟩] : List Pl) ((([⟨128 + 4 * k, .u16, X, 32 + k * 3, b0⟩, ⟨130 + 4 * k, .u8, X, 32 + k * 3 + 1, b1⟩, ⟨131 + 4 * k, .u8, X, 32 + k * 3 + 2, b2⟩] : List Pl).flatMap Pl.cells).toArray) 224 3 rfl (by omega) rfl)
          have G5 := Lib.hid (gr_alloc w4 (.cells ((([⟨128 + 4 * k, .u16, X, 32 + k * 3, b0⟩, ⟨130 + 4 * k, .u8, X, 32 + k * 3 + 1, b1⟩, ⟨131 + 4 * k, .u8, X, 32 + k * 3 + 2, b2⟩] : List Pl).flatMap Pl.cells).toArray) 224))
          have K5 := Lib.hid (K4.out.below G5.out)
          have C5 := Lib.hid (gr_tr C4.out G5.out)
          have PN := Lib.hid (show PsOk w4 w.heap.size X [⟨128 + 4 * k, .u16, X, 32 + k * 3, b0⟩, ⟨130 + 4 * k, .u8, X, 32 + k * 3 + 1, b1⟩, ⟨131 + 4 * k, .u8, X, 32 + k * 3 + 2, b2⟩] from by
            intro p hp
            simp only [List.mem_cons, List.not_mem_nil, or_false] at hp
            have s1 := BW.out.size; have s2 := C1.out.size; have s3 := C2.out.size; have s4 := C3.out.size
            have h0 := HBX0.out; have h1 := HBX1.out; have h2 := HBX2.out
            rcases hp with rfl | rfl | rfl
            · exact ⟨(OKP0.out.below D3.out).below D4.out, by show w.heap.size ≤ b0; omega, rfl⟩
            · exact ⟨OKP1.out.below D4.out, by show w.heap.size ≤ b1; omega, rfl⟩
            · exact ⟨OKP2.out, by show w.heap.size ≤ b2; omega, rfl⟩)
          have PA := Lib.hid (ps_more (Idn.PsOk.below PW.out C4.out) PN.out)
          go_wp2_with fail
          refine ⟨K5.out, ?_⟩
          refine wpS_chain rfl ?_
          refine app_places rfl (.tmp 95) (.tmp 117) rfl w.heap.size _ qs rfl (OW.out.below C5.out) (Nat.le_trans BW.out.size C5.out.size) _ [⟨128 + 4 * k, .u16, X, 32 + k * 3, b0⟩, ⟨130 + 4 * k, .u8, X, 32 + k * 3 + 1, b1⟩, ⟨131 + 4 * k, .u8, X, 32 + k * 3 + 2, b2⟩] rfl SV.out (by have := HPL.out; have := HK.out; simp; omega) ?_
          intro v6 w6 ho hb hg
          have O6 := Lib.hid ho; have K6 := Lib.hid (K5.out.base2 hb); have B6 := Lib.hid ((gr_tr BW.out C5.out).trans hb); have P6 := Lib.hid (ps_grown (Idn.PsOk.below PA.out G5.out) (OW.out.below C5.out) hg)
          clear ho hb hg
          go_wp2_with fail
          refine ⟨K6.out, ?_⟩
          repeat (refine wpS_firm rfl (fun K hK => ?_); simp only [Keep]; go_simp; refine hK _ ?_; clear hK K)
          unfold wpS
          clear hs0 hs1 hs2 hs3
          go_wp2
          go_roundw
          case rel => exact ⟨k + 1, _, by have := HK.out; omega, by go_num, O6.out, Lib.hid (by rw [List.map_append, KEY.out, spec_block k HK.out]; simp [key]; omega), P6.out, B6.out⟩
          case measure => simp [intOf]; omega
        · obtain rfl : k = 16 := by omega
          have KE := KEY.out
          rw [show nsSpec.take (32 + 3 * 16) = nsSpec from List.take_of_length_le (by rw [nsSpec_len]; decide)] at KE
          have KK := Lib.hid KE
          clear KE
          go_wp2
          go_ret
          exact ⟨_, qs, rfl, OW.out.slice, KK.out, PW.out, fun g o n c e => (OW.out.lt g (congrArg Value.ownBlock e)).1, BW.out⟩
end Go.Proofs.YthnnopjakpjoeaaDoor
