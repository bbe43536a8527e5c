/- DecodeNamespace. Printed by gendecn.py. -/
import Derived.Test.YthnnopjakpjoeaaDoorIdNsE
namespace Go.Proofs.YthnnopjakpjoeaaDoor
open Go.RowKit Idn
set_option linter.unusedVariables false
set_option linter.unusedSimpArgs false
namespace Idn
theorem readS_snoc (l : List (BitVec 8)) (C : Array Value) (sp : Spec) (s : Nat × Kd × Nat) : readS l C (sp ++ [s]) = (readS l C sp).setIfInBounds s.2.2 (s.2.1.val (Wire.getV (cutL l s.1 s.2.1.size))) := by unfold readS; rw [List.foldl_append]; rfl
theorem readS_size (l : List (BitVec 8)) (C : Array Value) (sp : Spec) : (readS l C sp).size = C.size := by
  unfold readS
  induction sp generalizing C with
  | nil => rfl
  | cons p ps ih => rw [List.foldl_cons, ih, Array.size_setIfInBounds]
theorem readS_all (l : List (BitVec 8)) (C : Array Value) (sp : Spec) (h : ∀ (j : Nat) (s : Nat × Kd × Nat), sp[j]? = some s → s.2.2 = j) (hC : C.size = sp.length) : readS l C sp = (sp.map fun s => s.2.1.val (Wire.getV (cutL l s.1 s.2.1.size))).toArray := by
  have key : ∀ k, k ≤ sp.length → ∀ j, (readS l C (sp.take k))[j]? = if j < k then (sp.map fun s => s.2.1.val (Wire.getV (cutL l s.1 s.2.1.size)))[j]? else C[j]? := by
    intro k
    induction k with
    | zero => intro _ j; simp [readS]
    | succ k ih =>
      intro hk j
      obtain ⟨s, hs⟩ : ∃ s, sp[k]? = some s := ⟨_, List.getElem?_eq_getElem (by omega)⟩
      obtain ⟨h1, h2⟩ := List.getElem?_eq_some_iff.1 hs
      rw [List.take_succ_eq_append_getElem h1, h2, readS_snoc, h k s hs, Array.getElem?_setIfInBounds, readS_size]
      by_cases e : k = j
      · subst e
        rw [if_pos rfl, if_pos (by omega), if_pos (by omega), List.getElem?_map, hs]; rfl
      · rw [if_neg e, ih (by omega) j]
        by_cases h3 : j < k
        · rw [if_pos h3, if_pos (by omega)]
        · rw [if_neg h3, if_neg (by omega)]
  apply Array.ext_getElem?
  intro j
  have := key sp.length (Nat.le_refl _) j
  rw [List.take_length] at this
  rw [this]
  by_cases hj : j < sp.length
  · rw [if_pos hj]; simp
  · rw [if_neg hj, Array.getElem?_eq_none (by omega)]
    exact (Array.getElem?_eq_none (by simp; omega)).symm
theorem zip_self {α β γ : Type} (g : α → β) (f : α × β → γ) (l : List α) : (l.zip (l.map g)).map f = l.map fun a => f (a, g a) := by
  induction l with
  | nil => rfl
  | cons a l ih => simp [ih]
/-- What is read of bytes. -/
def rdNs (l : List (BitVec 8)) : List (BitVec 64) := nsSpec.map fun s => Wire.getV (cutL l s.1 s.2.1.size)
def nsZ : List (BitVec 64) := List.replicate 80 0#64
theorem rdNs_cells (l : List (BitVec 8)) : nsC (rdNs l) = nsSpec.map fun s => s.2.1.val (Wire.getV (cutL l s.1 s.2.1.size)) := by
  unfold nsC rdNs; rw [zip_self]
theorem readS_ns (l : List (BitVec 8)) (C : Array Value) (hC : C.size = 80) : readS l C nsSpec = (nsC (rdNs l)).toArray := by
  rw [rdNs_cells]
  refine readS_all l C nsSpec (fun j s hs => ?_) (by rw [hC, nsSpec_len])
  have hj := (List.getElem?_eq_some_iff.1 hs).1
  rw [nsSpec_len] at hj
  obtain ⟨s', h1, h2, _⟩ := nsSpec_at j hj
  rw [hs] at h1
  injection h1 with h1
  rw [h1]; exact h2
theorem no_flag : ∀ s ∈ nsSpec, s.2.1 ≠ .flag := by
  have h : nsSpec.all (fun s => match s.2.1 with | .flag => false | _ => true) = true := by decide +kernel
  intro s hs e
  have := List.all_eq_true.1 h s hs
  rw [e] at this
  simp at this
theorem small_trunc (v : BitVec 64) (n : Nat) (h : v >>> n = 0#64) : v.toNat < 2 ^ n := by
  have h2 := congrArg BitVec.toNat h
  rw [BitVec.toNat_ushiftRight, Nat.shiftRight_eq_div_pow] at h2
  have hz : (0#64).toNat = 0 := rfl
  rw [hz] at h2
  exact (Nat.div_eq_zero_iff.1 h2).resolve_left (by have := Nat.two_pow_pos n; omega)
theorem trunc_get (k : Kd) (hk : k ≠ .flag) (l : List (BitVec 8)) (a : Nat) (h : a + k.size ≤ l.length) : k.trunc (Wire.getV (cutL l a k.size)) = Wire.getV (cutL l a k.size) := by
  have hs := k.size_pos
  rw [(getV_cut h hs.1 hs.2).1]
  have hl := cutL_len h
  cases k
  · have hh := small_trunc _ _ (Wire.get_high (cutL l a 1) (by rw [show (cutL l a 1).length = 1 from hl]; decide))
    rw [show (cutL l a 1).length = 1 from hl] at hh
    apply BitVec.eq_of_toNat_eq
    simp only [Kd.trunc, Kd.size, BitVec.toNat_setWidth]
    simp only [Nat.reduceMul, Nat.reducePow] at hh ⊢; omega
  · have hh := small_trunc _ _ (Wire.get_high (cutL l a 2) (by rw [show (cutL l a 2).length = 2 from hl]; decide))
    rw [show (cutL l a 2).length = 2 from hl] at hh
    apply BitVec.eq_of_toNat_eq
    simp only [Kd.trunc, Kd.size, BitVec.toNat_setWidth]
    simp only [Nat.reduceMul, Nat.reducePow] at hh ⊢; omega
  · have hh := small_trunc _ _ (Wire.get_high (cutL l a 4) (by rw [show (cutL l a 4).length = 4 from hl]; decide))
    rw [show (cutL l a 4).length = 4 from hl] at hh
    apply BitVec.eq_of_toNat_eq
    simp only [Kd.trunc, Kd.size, BitVec.toNat_setWidth]
    simp only [Nat.reduceMul, Nat.reducePow] at hh ⊢; omega
  · rfl
  · exact absurd rfl hk
theorem rdNs_ok {l : List (BitVec 8)} (hl : l.length = 4096) : NsOk (rdNs l) := by
  refine ⟨by unfold rdNs; rw [List.length_map, nsSpec_len], fun p hp => ?_⟩
  obtain ⟨i, hi, e⟩ := List.mem_iff_getElem.1 hp
  have hi80 : i < 80 := by rw [List.length_zip, nsSpec_len] at hi; omega
  have hz : (nsSpec.zip (rdNs l))[i]? = some p := by rw [List.getElem?_eq_getElem hi, e]
  obtain ⟨h1, h2⟩ := List.getElem?_zip_eq_some.1 hz
  obtain ⟨s, hs, _, h4⟩ := nsSpec_at i hi80
  rw [hs] at h1
  injection h1 with h1
  have h5 : p.2 = Wire.getV (cutL l s.1 s.2.1.size) := by
    unfold rdNs at h2
    rw [List.getElem?_map, hs] at h2
    injection h2 with h2
    exact h2.symm
  rw [h5, ← h1]
  exact trunc_get s.2.1 (no_flag s (List.mem_of_getElem? hs)) l s.1 (by rw [hl]; exact h4)
theorem nsZ_ok : NsOk nsZ := ⟨by decide, by
  intro p hp
  have h2 : p.2 = 0#64 := List.eq_of_mem_replicate (List.of_mem_zip hp).2
  rw [h2]
  cases p.1.2.1 <;> rfl⟩
abbrev NsL := List (BitVec 64)
end Idn
abbrev Idn.NsL.cells (x : NsL) : List Value := nsC x
theorem NsL.cells_one (x : NsL) : (NsL.cells x).toArray.all (·.oneCell') = true := by
  rw [List.all_toArray, List.all_eq_true]
  intro u hu
  obtain ⟨p, _, rfl⟩ := List.mem_map.1 hu
  exact Kd.one _ _
theorem ns_sz {x : NsL} (h : NsOk x) : (NsL.cells x).toArray.size = 80 := by rw [List.size_toArray]; exact nsC_len h.1
set_option maxHeartbeats 6400000 in
set_option maxRecDepth 100000 in
theorem readNs_at (X bbox : Nat) (bv : Value) (l : List (BitVec 8)) (w : World) (hb : BytesV w bv l) (hl : l.length = 4096) (hbb : w.heap[bbox]? = some (.cells #[bv] 22 (0, 0))) (hoff : Off (fun b => b = X) bv) (hne : ¬ bbox = X)
    (hx : w.heap[X]? = some (.cells (NsL.cells nsZ).toArray 71 (0, 0))) :
    Calls Tryd.prog 89 #[.pointer (some ⟨X, 0, none⟩), .pointer (some ⟨bbox, 0, none⟩)] w fun e w' => e = .returned (.tuple #[]) ∧ w'.heap[X]? = some (.cells (NsL.cells (rdNs l)).toArray 71 (0, 0)) ∧ Chg (fun b => b = X) w w' := by
  have BV := Lib.hid hb; have HX := Lib.hid hx; have OFF := Lib.hid hoff; have HL := Lib.hid hl
  have HXW := Lib.hid (Array.getElem?_eq_some_iff.1 hx).1
  have SZ := Lib.hid (ns_sz nsZ_ok)
  have q0 : ∀ y : KeepT (fun b => b = X) w, y.val.cell? ⟨bbox, 0, none⟩ = some bv := fun y => y.cell ((cell_of_row _ _ 0 _ _ _ hbb).trans rfl) hne
  clear hb hbb hl hoff hx
  go_enter Tryd.func89, Tryd.ntmps89
  go_wp2
  refine wp_region_planW (fun b => b = X) [(true, 0), (true, 1), (false, 2), (false, 3)] (by kernel_rfl) (by kernel_rfl) (by intro c a d v w h; cases d <;> exact h) ?_
  intro W1 K1 C1
  repeat (refine wpS_firm rfl (fun K hK => ?_); simp only [Keep]; go_simp; refine hK _ ?_; clear hK K)
  refine wpS_chain rfl ?_
  go_wp2_with (go_at_call 87; go_loud (refine (namespace_any X _).mono ?_; rintro r w3 ⟨pv, ps, rfl, hsv, hkey, hps, hnv, hw⟩; have SV := Lib.hid hsv; have KEY := Lib.hid hkey; have PS := Lib.hid hps; have NV := Lib.hid hnv; have K2 := Lib.hid (K1.out.below hw); have C2 := Lib.hid (gr_tr C1.out hw); clear hsv hkey hps hnv hw))
  refine ⟨K2.out, ?_⟩
  refine wpS_chain rfl ?_
  have FA := Lib.hid (show ∀ q ∈ ps, Fit w3 X (NsL.cells nsZ).toArray.size q by rw [SZ.out]; exact fit_all KEY.out (by decide +kernel) PS.out (by have := C1.out.size; have := HXW.out; omega))
  go_wp2_with (go_at_call 73; go_loud (refine (load_any X 71 (NsL.cells nsZ).toArray bv pv l ps _ (BV.out.below C2.out) HL.out OFF.out SV.out (fun g o n c e h => by have := NV.out g o n c e; have := C1.out.size; have := HXW.out; omega) (blk_below HX.out C2.out) FA.out).mono ?_; rw [readC_key KEY.out, readS_ns _ _ SZ.out]; rintro r w4 ⟨rfl, hx4, hc⟩; have X4 := Lib.hid hx4; have K3 := Lib.hid (K2.out.chg hc (fun k h => .inl h)); have C3 := Lib.hid ((Chg.of_below (B := fun b => b = X) C2.out).trans hc); clear hx4 hc))
  refine ⟨K3.out, ?_⟩
  repeat (refine wpS_firm rfl (fun K hK => ?_); simp only [Keep]; go_simp; refine hK _ ?_; clear hK K)
  unfold wpS
  go_wp2
  go_end0
  exact ⟨rfl, X4.out, C3.out⟩
theorem EncNsD_ok (x : NsL) (w : World) (hx : NsOk x) (h : okNs x = true) : Calls Tryd.prog 33 #[.agg (NsL.cells x).toArray] w fun e w' => ∃ u, e = .returned (.tuple #[u, .int .i64 0]) ∧ BytesV w' u (nsB x) ∧ Below w.heap.size w w' :=
  EncNs_at x 0 (nsB x) w hx (by unfold nsE; rw [h]; rfl) (by unfold nsR; rw [h]; rfl)
theorem EncNsD_no (x : NsL) (w : World) (hx : NsOk x) (h : okNs x = false) : Calls Tryd.prog 33 #[.agg (NsL.cells x).toArray] w fun e w' => ∃ u, e = .returned (.tuple #[u, .int .i64 2]) ∧ BytesV w' u [] ∧ Below w.heap.size w w' :=
  EncNs_at x 2 [] w hx (by unfold nsE; rw [h]; rfl) (by unfold nsR; rw [h]; rfl)
set_option maxRecDepth 100000 in
theorem NsL_lit : (NsL.cells nsZ).toArray = Tryd.zeroCells71 := by rfl
set_option maxHeartbeats 6400000 in
set_option maxRecDepth 100000 in
theorem decoded_NsL (l : List (BitVec 8)) (bv : Value) (bbox : Nat) (w : World) (y : NsL) (e : Int) (hb : BytesV w bv l) (hl : l.length ≤ 140737488355328) (hbb : w.heap[bbox]? = some (.cells #[bv] 22 (0, 0))) (hd : decV rdNs okNs nsB nsZ l = (y, e)) :
    Calls Tryd.prog 88 #[bv, .func (.func 89) #[] #[.pointer (some ⟨bbox, 0, none⟩)], .func (.func 33) #[] #[]] w fun r w' => r = .returned (.tuple #[.agg (NsL.cells y).toArray, .int .i64 e]) ∧ Below w.heap.size w w' := by
  obtain ⟨av, cv, rfl, hv0, hv1, hv2, hv3⟩ := id hb
  have hm : l.length ≤ 9223372036854775807 := by omega
  have BV := Lib.hid hb; have BB := Lib.hid hbb
  have SnsZ := Lib.hid (show (NsL.cells nsZ).toArray.size = 80 by rw [NsL_lit]; rfl)
  obtain ⟨V, hV⟩ : ∃ V, V = w.alloc (.cells (NsL.cells nsZ).toArray 71) := ⟨_, rfl⟩
  have DV := Lib.hid (show Below w.heap.size w V by rw [hV]; exact gr_alloc w _)
  have XV := Lib.hid (show V.heap[w.heap.size]? = some (.cells (NsL.cells nsZ).toArray 71 (0, 0)) by rw [hV]; exact heap_alloc_new w _)
  have VS := Lib.hid (show w.heap.size < V.heap.size by rw [hV]; simp)
  rw [NsL_lit] at hV
  have HV := Lib.hid hV
  clear hb hbb hv0 hv1 hv2 hv3 hV
  unfold decV at hd
  by_cases p1 : l.length < 4096
  · rw [if_pos p1] at hd
    cases hd
    have d1 : decide ((l.length : Int) < 4096) = true := decide_eq_true (by omega)
    clear p1
    go_enter Tryd.func88, Tryd.ntmps88
    go_upto_region 1 with (fail)
    rw [← HV.out]
    go_wp2_with (first
      | (refine wpList_load_row rfl 71 (.tmp 6) rfl w.heap.size rfl 71 _ (0, 0) _ XV.out Tryd.underlying71 rfl (by rw [SnsZ.out]; kernel_rfl) ?_)
      | (refine wpList_store_row rfl 71 (.tmp 6) (.tmp 15) rfl w.heap.size (NsL.cells nsZ).toArray rfl rfl 71 _ XV.out (by rw [SnsZ.out]; kernel_rfl) rfl (NsL.cells_one _) ?_))
    exact bodyPost_ret (results_row_tmp rfl _ _ w.heap.size 71 (NsL.cells nsZ).toArray (0, 0) _ rfl (setRow_heap _ _ _ _ _ _ XV.out) Tryd.underlying71 rfl (by rw [SnsZ.out]; kernel_rfl)) rfl ⟨rfl, below_setRow DV.out (Nat.le_refl _) _⟩
  · rw [if_neg p1] at hd
    by_cases p2 : 4096 < l.length
    · rw [if_pos p2] at hd
      cases hd
      have d1 : decide ((l.length : Int) < 4096) = false := decide_eq_false (by omega)
      have d2 : decide (4096 < (l.length : Int)) = true := decide_eq_true (by omega)
      clear p1 p2
      go_enter Tryd.func88, Tryd.ntmps88
      go_upto_region 1 with (fail)
      rw [← HV.out]
      go_wp2_with (first
        | (refine wpList_load_row rfl 71 (.tmp 6) rfl w.heap.size rfl 71 _ (0, 0) _ XV.out Tryd.underlying71 rfl (by rw [SnsZ.out]; kernel_rfl) ?_)
        | (refine wpList_store_row rfl 71 (.tmp 6) (.tmp 20) rfl w.heap.size (NsL.cells nsZ).toArray rfl rfl 71 _ XV.out (by rw [SnsZ.out]; kernel_rfl) rfl (NsL.cells_one _) ?_))
      exact bodyPost_ret (results_row_tmp rfl _ _ w.heap.size 71 (NsL.cells nsZ).toArray (0, 0) _ rfl (setRow_heap _ _ _ _ _ _ XV.out) Tryd.underlying71 rfl (by rw [SnsZ.out]; kernel_rfl)) rfl ⟨rfl, below_setRow DV.out (Nat.le_refl _) _⟩
    · rw [if_neg p2] at hd
      have d1 : decide ((l.length : Int) < 4096) = false := decide_eq_false (by omega)
      have d2 : decide (4096 < (l.length : Int)) = false := decide_eq_false (by omega)
      have hl4 : l.length = 4096 := by omega
      have HD := Lib.hid hd; have HL4 := Lib.hid hl4
      clear p1 p2 hd hl4
      obtain ⟨x, hx⟩ : ∃ x, rdNs l = x := ⟨_, rfl⟩
      have HX := Lib.hid hx
      have SZX := Lib.hid (show (NsL.cells x).toArray.size = 80 by (rw [← HX.out]; exact ns_sz (rdNs_ok HL4.out)))
      clear hx
      obtain ⟨bo, hbo⟩ : ∃ b, okNs x = b := ⟨_, rfl⟩
      have HO := Lib.hid hbo; clear hbo
      obtain ⟨W, hW⟩ : ∃ W, W = V.alloc (.cells (NsL.cells nsZ).toArray 71) := ⟨_, rfl⟩
      have D := Lib.hid (show Below w.heap.size w W by rw [hW]; exact gr_tr DV.out (gr_alloc V _))
      have XA := Lib.hid (show W.heap[w.heap.size]? = some (.cells (NsL.cells nsZ).toArray 71 (0, 0)) by rw [hW]; exact blk_below XV.out (gr_alloc V _))
      have XB := Lib.hid (show W.heap[V.heap.size]? = some (.cells (NsL.cells nsZ).toArray 71 (0, 0)) by rw [hW]; exact heap_alloc_new V _)
      rw [NsL_lit] at hW
      have HW := Lib.hid hW; clear hW
      have HBW := Lib.hid (Array.getElem?_eq_some_iff.1 BB.out).1
      have hgl : ∀ g o n c, Value.slice av l.length cv = .slice (some ⟨g, o, none⟩) n c → g < w.heap.size := slice_lt BV.out (by rw [HL4.out]; decide)
      have GL := Lib.hid hgl; clear hgl
      go_enter Tryd.func88, Tryd.ntmps88
      go_upto_region 1 with (fail)
      rw [← HV.out]
      go_upto_region 6 with (fail)
      rw [← HW.out]
      go_upto_region 7 with (go_at_call 89; go_loud (refine (readNs_at V.heap.size bbox _ l _ (BV.out.below D.out) HL4.out (blk_below BB.out D.out) (fun g o n c e h => by have := GL.out g o n c e; have := VS.out; omega) (fun h => by have := HBW.out; have := VS.out; omega) XB.out).mono ?_; rw [HX.out]; rintro r w3 ⟨rfl, hx3, hc⟩; have X3 := Lib.hid hx3; have C3 := Lib.hid hc; have D3 := Lib.hid (hc.fresh D.out (fun k h => by have := VS.out; omega)); have A3 := Lib.hid (hc.blk XA.out (by have := VS.out; omega)); have BV3 := Lib.hid (BV.out.below D3.out); clear hx3 hc))
      cases bo
      · have EN := Lib.hid (fun W => EncNsD_no x W (by rw [← HX.out]; exact rdNs_ok HL4.out) HO.out)
        go_wp2_with (first
          | (refine wpList_load_row rfl 71 (.tmp 8) rfl V.heap.size rfl 71 _ (0, 0) _ X3.out Tryd.underlying71 rfl (by rw [SZX.out]; kernel_rfl) ?_)
          | (refine wpList_load_row rfl 71 (.tmp 6) rfl w.heap.size rfl 71 _ (0, 0) _ A4.out Tryd.underlying71 rfl (by rw [SnsZ.out]; kernel_rfl) ?_)
          | (refine wpList_store_row rfl 71 (.tmp 6) (.tmp 37) rfl w.heap.size (NsL.cells nsZ).toArray rfl rfl 71 _ A4.out (by rw [SnsZ.out]; kernel_rfl) rfl (NsL.cells_one _) ?_)
          | (go_at_call 33; go_loud (refine (EN.out _).mono ?_; rintro r w4 ⟨u, rfl, hu, hw⟩; have U := Lib.hid hu; have D4 := Lib.hid (gr_tr D3.out hw); have A4 := Lib.hid (blk_below A3.out hw); have X4 := Lib.hid (blk_below X3.out hw); have BV4 := Lib.hid (BV3.out.below hw); clear hu hw)))
        obtain ⟨e1, e2⟩ : y = nsZ ∧ e = 6 := by
          have h := HD.out
          rw [HX.out, HO.out] at h
          simp at h
          exact ⟨h.1.symm, h.2.symm⟩
        rw [e1, e2]
        exact bodyPost_ret (results_row_tmp rfl _ _ w.heap.size 71 (NsL.cells nsZ).toArray (0, 0) _ rfl (setRow_heap _ _ _ _ _ _ A4.out) Tryd.underlying71 rfl (by rw [SnsZ.out]; kernel_rfl)) rfl ⟨rfl, below_setRow D4.out (Nat.le_refl _) _⟩
      · have EN := Lib.hid (fun W => EncNsD_ok x W (by rw [← HX.out]; exact rdNs_ok HL4.out) HO.out)
        obtain ⟨bq, hbq⟩ : ∃ b, (nsB x == l) = b := ⟨_, rfl⟩
        have HQ := Lib.hid hbq; clear hbq
        cases bq
        · skip
          go_wp2_with (first
            | (refine wpList_load_row rfl 71 (.tmp 8) rfl V.heap.size rfl 71 _ (0, 0) _ X3.out Tryd.underlying71 rfl (by rw [SZX.out]; kernel_rfl) ?_)
            | (refine wpList_load_row rfl 71 (.tmp 6) rfl w.heap.size rfl 71 _ (0, 0) _ A4.out Tryd.underlying71 rfl (by rw [SnsZ.out]; kernel_rfl) ?_)
            | (refine wpList_store_row rfl 71 (.tmp 6) (.tmp 37) rfl w.heap.size (NsL.cells nsZ).toArray rfl rfl 71 _ A4.out (by rw [SnsZ.out]; kernel_rfl) rfl (NsL.cells_one _) ?_)
            | (go_at_call 33; go_loud (refine (EN.out _).mono ?_; rintro r w4 ⟨u, rfl, hu, hw⟩; have U := Lib.hid hu; have D4 := Lib.hid (gr_tr D3.out hw); have A4 := Lib.hid (blk_below A3.out hw); have X4 := Lib.hid (blk_below X3.out hw); have BV4 := Lib.hid (BV3.out.below hw); clear hu hw))
            | (go_at_call 128; go_loud (refine (Equal_at _ _ _ _ _ _ U.out BV4.out HQ.out).mono ?_; rintro r w5 ⟨rfl, rfl⟩)))
          obtain ⟨e1, e2⟩ : y = nsZ ∧ e = 6 := by
            have h := HD.out
            rw [HX.out, HO.out, HQ.out] at h
            simp at h
            exact ⟨h.1.symm, h.2.symm⟩
          rw [e1, e2]
          exact bodyPost_ret (results_row_tmp rfl _ _ w.heap.size 71 (NsL.cells nsZ).toArray (0, 0) _ rfl (setRow_heap _ _ _ _ _ _ A4.out) Tryd.underlying71 rfl (by rw [SnsZ.out]; kernel_rfl)) rfl ⟨rfl, below_setRow D4.out (Nat.le_refl _) _⟩
        · skip
          go_wp2_with (first
            | (refine wpList_load_row rfl 71 (.tmp 8) rfl V.heap.size rfl 71 _ (0, 0) _ X3.out Tryd.underlying71 rfl (by rw [SZX.out]; kernel_rfl) ?_)
            | (refine wpList_load_row rfl 71 (.tmp 8) rfl V.heap.size rfl 71 _ (0, 0) _ X4.out Tryd.underlying71 rfl (by rw [SZX.out]; kernel_rfl) ?_)
            | (refine wpList_store_row rfl 71 (.tmp 6) (.tmp 38) rfl w.heap.size (NsL.cells x).toArray rfl rfl 71 _ A4.out (by rw [SZX.out]; kernel_rfl) (by rw [SZX.out, SnsZ.out]) (NsL.cells_one _) ?_)
            | (go_at_call 33; go_loud (refine (EN.out _).mono ?_; rintro r w4 ⟨u, rfl, hu, hw⟩; have U := Lib.hid hu; have D4 := Lib.hid (gr_tr D3.out hw); have A4 := Lib.hid (blk_below A3.out hw); have X4 := Lib.hid (blk_below X3.out hw); have BV4 := Lib.hid (BV3.out.below hw); clear hu hw))
            | (go_at_call 128; go_loud (refine (Equal_at _ _ _ _ _ _ U.out BV4.out HQ.out).mono ?_; rintro r w5 ⟨rfl, rfl⟩)))
          obtain ⟨e1, e2⟩ : y = x ∧ e = 0 := by
            have h := HD.out
            rw [HX.out, HO.out, HQ.out] at h
            simp at h
            exact ⟨h.1.symm, h.2.symm⟩
          rw [e1, e2]
          exact bodyPost_ret (results_row_tmp rfl _ _ w.heap.size 71 (NsL.cells x).toArray (0, 0) _ rfl (setRow_heap _ _ _ _ _ _ A4.out) Tryd.underlying71 rfl (by rw [SZX.out]; kernel_rfl)) rfl ⟨rfl, below_setRow D4.out (Nat.le_refl _) _⟩
set_option maxHeartbeats 6400000 in
set_option maxRecDepth 100000 in
theorem Decode_NsL (l : List (BitVec 8)) (bv : Value) (w : World) (y : NsL) (e : Int) (hsz : (NsL.cells y).toArray.size = 80) (hb : BytesV w bv l) (hl : l.length ≤ 140737488355328) (hd : decV rdNs okNs nsB nsZ l = (y, e)) :
    Calls Tryd.prog 34 #[bv] w fun r w' => r = .returned (.tuple #[.agg (NsL.cells y).toArray, .int .i64 e]) ∧ Below w.heap.size w w' := by
  have hmf : ∀ (fn : Fn) (first cap : Array Value) (w : World), (Instr.makeFunc fn first cap).run Tryd.prog w = .ok (.func fn first cap) w := fun _ _ _ _ => rfl
  obtain ⟨av, cv, rfl, hv0, hv1, hv2, hv3⟩ := id hb
  have SnsZ := Lib.hid (show (NsL.cells nsZ).toArray.size = 80 by rw [NsL_lit]; rfl)
  have HSZ := Lib.hid hsz
  clear hsz
  obtain ⟨bv, hbv⟩ : ∃ v, v = Value.slice av l.length cv := ⟨_, rfl⟩
  have BV := Lib.hid (show BytesV w bv l by rw [hbv]; exact hb); have HD := Lib.hid hd
  rw [← hbv]
  clear hv0 hv1 hv2 hv3
  obtain ⟨W, hW⟩ : ∃ W, W = (w.alloc (.cells #[bv] 22)).alloc (.cells (NsL.cells nsZ).toArray 71) := ⟨_, rfl⟩
  have D := Lib.hid (show Below w.heap.size w W by rw [hW]; exact gr_tr (gr_alloc w _) (gr_alloc _ _))
  have BB := Lib.hid (show W.heap[w.heap.size]? = some (.cells #[bv] 22 (0, 0)) by rw [hW]; exact blk_below (heap_alloc_new w _) (gr_alloc _ _))
  have XB := Lib.hid (show W.heap[w.heap.size + 1]? = some (.cells (NsL.cells nsZ).toArray 71 (0, 0)) by rw [hW]; have := heap_alloc_new (w.alloc (.cells #[bv] 22)) (.cells (NsL.cells nsZ).toArray 71); rwa [World.size_alloc] at this)
  rw [NsL_lit] at hW
  have HW := Lib.hid hW
  have cb : W.cell? ⟨w.heap.size, 0, none⟩ = some bv := (cell_of_row _ _ 0 _ _ _ BB.out).trans rfl
  have HBV := Lib.hid hbv
  clear hW hb hd
  rw [HBV.out] at HW BV BB cb ⊢
  clear hbv
  go_enter Tryd.func34, Tryd.ntmps34
  go_upto_region 1 with (fail)
  rw [← HW.out]
  go_wp2_with (first
    | (go_at_call 88; go_loud (refine (decoded_NsL l _ w.heap.size _ y e (BV.out.below D.out) hl BB.out HD.out).mono ?_; rintro r w3 ⟨rfl, hw⟩; have D3 := Lib.hid (gr_tr D.out hw); have X3 := Lib.hid (blk_below XB.out hw); clear hw))
    | (refine wpList_store_row rfl 71 (.tmp 2) (.tmp 7) rfl (w.heap.size + 1) (NsL.cells y).toArray rfl rfl 71 _ X3.out (by rw [HSZ.out]; kernel_rfl) (by rw [HSZ.out, SnsZ.out]) (NsL.cells_one _) ?_))
  exact bodyPost_ret (results_row_tmp rfl _ _ (w.heap.size + 1) 71 (NsL.cells y).toArray (0, 0) _ rfl (setRow_heap _ _ _ _ _ _ X3.out) Tryd.underlying71 rfl (by rw [HSZ.out]; kernel_rfl)) rfl ⟨rfl, below_setRow D3.out (by omega) _⟩
end Go.Proofs.YthnnopjakpjoeaaDoor
