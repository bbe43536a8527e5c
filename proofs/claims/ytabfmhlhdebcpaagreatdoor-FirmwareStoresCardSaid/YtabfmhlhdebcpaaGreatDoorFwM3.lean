/- Merged: FwO, FwP, FwQ, FwR, FwS, FwT. -/
import Derived.Test.YtabfmhlhdebcpaaGreatDoorFwM2
import Derived.Test.YtabfmhlhdebcpaaGreatDoorPlan2
import Derived.Test.YtabfmhlhdebcpaaGreatDoorSelfEq
namespace Go.Proofs.YtabfmhlhdebcpaaGreatDoor
open Go.RowKit Fw
set_option linter.unusedVariables false
set_option linter.unusedSimpArgs false
attribute [local go_sem] Oper.semAt_some
theorem wpT_load_rowN {P : Program} {ops : Array Oper} {Q : Exit → Act → World → Prop} {S : World → Prop} {a : Act} {w : World} {i : Nat} {r : PlanT} {o : Oper} (ho : ops[i]? = some o) (hw : Region.wanted o (yielded ops a.tmps) = true) (ty : TypeId) (x : Operand) (hop : o.op = .load ty x)
    (g : Nat) (hx : a.eval x = .pointer (some ⟨g, 0, none⟩)) (t : TypeId) (cs : Array Value) (fr : Nat × Nat) (d : TypeDesc) (hg : ∀ x, S x → x.heap[g]? = some (.cells cs t fr))
    (hu : P.underlying ty = some d) (hd : (match d with | .struct _ | .array _ _ => true | _ => false) = true) (hi : (P.info? ty).map (·.size) = some cs.size)
    (h : wpT P ops Q S r (a.put o.dst (.agg cs)) w) : wpT P ops Q S (.firm i r) a w := by
  refine ⟨o, ho, ?_⟩
  rw [if_pos hw]
  refine ⟨.agg cs, fun x hS => ?_, h⟩
  unfold execOp
  simp only [hop, hx, Instr.loadAt, Instr.sureAddr, Sem.run_bind, Sem.run_pure, Result.andThen_ok, run_loadVar_row x g t ty cs fr d (hg x hS) hu hd hi]
/-- The pieces with one more among them. -/
def insZ (i : Nat) (x : Pc × Value) (zs : List (Pc × Value)) : List (Pc × Value) := zs.take i ++ x :: zs.drop i
theorem insZ_flat (i : Nat) (x : Pc × Value) (zs : List (Pc × Value)) : (insZ i x zs).flatMap pcC = (zs.flatMap pcC).take (i * 2) ++ (pcC x ++ (zs.flatMap pcC).drop (i * 2)) := by
  unfold insZ
  have key : ∀ (zs : List (Pc × Value)) (i : Nat), (zs.flatMap pcC).take (i * 2) = (zs.take i).flatMap pcC ∧ (zs.flatMap pcC).drop (i * 2) = (zs.drop i).flatMap pcC := by
    intro zs
    induction zs with
    | nil => intro i; simp
    | cons y zs ih =>
      intro i
      cases i with
      | zero => simp
      | succ i =>
        obtain ⟨h1, h2⟩ := ih i
        rw [List.flatMap_cons, show (i + 1) * 2 = (pcC y).length + i * 2 by rw [pcC_len]; omega, List.take_length_add_append, List.drop_length_add_append, h1, h2]
        simp
  obtain ⟨h1, h2⟩ := key zs i
  rw [h1, h2, List.flatMap_append, List.flatMap_cons]
set_option maxRecDepth 20000 in
set_option maxHeartbeats 6400000 in
theorem inserted_at (al : Option Addr) (cl : Nat) (ps : List Pc) (dvs : List Value) (A : Nat) (d : Bs) (ad : Option Addr) (cd : Nat) (w : World) (h : PcsAt 97 w ps (.slice al ps.length cl) dvs) (hs : Sep 0 ps) (hl : ps.length ≤ 1048576) :
    Calls Tryz.prog 43 #[.slice al ps.length cl, .agg #[.int .i64 (A : Int), .slice ad d.length cd], .func (.func 44) #[] #[]] w fun e w' =>
      ∃ u, e = .returned (.tuple #[u, .slice al (pos A ps) (pos A ps), .slice (if cl = pos A ps then al else al.map (·.add (pos A ps * 2))) (ps.length - pos A ps) (cl - pos A ps)]) ∧
        w'.ownsRow w.heap.size 97 2 u (ps.length + 1) ((insZ (pos A ps) (⟨A, d⟩, .slice ad d.length cd) (ps.zip dvs)).flatMap pcC) ∧ Below w.heap.size w w' := by
  have hz : (ps.zip dvs).map (·.1) = ps := by
    rw [List.map_fst_zip]; rw [h.len]; exact Nat.le_refl _
  have hzl := h.zlen
  have hones := h.ones
  have hsl := h.slice
  have hcap : ps.length ≤ cl := by
    obtain ⟨a, c, e, -, h1, -⟩ := id hsl
    injection e with e1 e2 e3
    subst e3
    rw [hzl] at h1; exact h1
  have hpos := pos_le A ps
  rw [insZ_flat]
  obtain ⟨zs, hzs⟩ : ∃ z, ps.zip dvs = z := ⟨_, rfl⟩
  rw [hzs] at hz hzl hones hsl ⊢
  obtain ⟨L, hL⟩ : ∃ z, d.length = z := ⟨_, rfl⟩
  have SRC := Lib.hid (fun w h => search_at (.slice al ps.length cl) zs ps A (.slice ad L cd) w h hz hs (by omega) rfl)
  have CLN := Lib.hid (fun w h => ClonePc_at (.slice al ps.length cl) zs w h (by rw [hzl]; omega) hones)
  rw [hL]
  obtain ⟨i, hi⟩ : ∃ z, pos A ps = z := ⟨_, rfl⟩
  rw [hi] at SRC hpos ⊢
  obtain ⟨n, hn⟩ : ∃ z, ps.length = z := ⟨_, rfl⟩
  rw [hn] at SRC CLN hzl hsl hcap hpos hl ⊢
  have SV := Lib.hid hsl
  have HZL := Lib.hid hzl
  have HON := Lib.hid hones
  have NL := Lib.hid (show (pcC (⟨A, d⟩, Value.slice ad L cd)).length = 2 from rfl)
  have N1 := Lib.hid (show ∀ u ∈ pcC (⟨A, d⟩, Value.slice ad L cd), u.oneCell' = true from fun u hu => by unfold pcC at hu; rcases List.mem_cons.1 hu with rfl | hu; rfl; rw [List.mem_singleton.1 hu]; rfl)
  have INS := Lib.hid (fun base u vb w h a b c => Insert_at base u n i vb (zs.flatMap pcC) (pcC (⟨A, d⟩, Value.slice ad L cd)) w h hpos (by omega) rfl a b N1.out hones c)
  obtain ⟨W, hW⟩ : ∃ W, W = w.alloc (.cells #[.int .i64 (A : Int), .slice ad L cd] 97) := ⟨_, rfl⟩
  have D := Lib.hid (show Below w.heap.size w W by rw [hW]; exact gr_alloc w _)
  have X := Lib.hid (show W.heap[w.heap.size]? = some (.cells #[.int .i64 (A : Int), .slice ad L cd] 97 (0, 0)) by rw [hW]; exact heap_alloc_new w _)
  have HW := Lib.hid hW
  have r9 : ∀ w', (Instr.slice 72 (.slice al n cl) none (some (.int .i64 (i : Int))) (some (.int .i64 (i : Int)))).run Tryz.prog w' = .ok (.slice al i i) w' := fun w' => by
    rw [run_slice_hm w' 72 al n cl pc_under .i64 .i64 (i : Int) (i : Int) (by omega) (by omega) (by omega), pc_size]
    have e : al.map (fun x => x.add (0 * 2)) = al := by cases al <;> simp [Addr.add]
    simp only [Result.andThen, sliced, e]
    simp
  have r12 : ∀ w', (Instr.slice 72 (.slice al n cl) (some (.int .i64 (i : Int))) none none).run Tryz.prog w' = .ok (.slice (if cl = i then al else al.map (·.add (i * 2))) (n - i) (cl - i)) w' := fun w' => by
    rw [run_slice_l w' 72 al n cl pc_under .i64 i (by omega) (by omega), pc_size]
    simp [Result.andThen, sliced]
  obtain ⟨v2, hv2⟩ : ∃ z, Value.slice (if cl = i then al else al.map (·.add (i * 2))) (n - i) (cl - i) = z := ⟨_, rfl⟩
  rw [hv2] at r12 ⊢
  obtain ⟨FL, hFL⟩ : ∃ z, zs.flatMap pcC = z := ⟨_, rfl⟩
  rw [hFL] at CLN INS ⊢
  obtain ⟨q, hq⟩ : ∃ q, w.heap.size = q := ⟨_, rfl⟩
  have HQ := Lib.hid hq
  clear hW hv2 hi hn hL hzs hz hzl hones hsl hcap hpos h hs hl hFL hq
  go_enter Tryz.func43, Tryz.ntmps43
  go_upto_region 1 with fail
  rw [← HW.out]
  go_upto_region 2 with (first
    | (refine wpList_load_row rfl 97 (.tmp 4) rfl w.heap.size rfl 97 #[.int .i64 (A : Int), .slice ad L cd] (0, 0) _ X.out Tryz.underlying97 rfl (by kernel_rfl) ?_)
    | (go_at_call 61; go_loud (refine (SRC.out _ (SliceV.below SV.out D.out)).mono ?_; rintro e w1 ⟨b, rfl, hb⟩; have D1 := Lib.hid (gr_tr D.out hb); have X1 := Lib.hid (blk_below X.out hb); clear hb)))
  refine wp_region_planT nowhere (.firm 0 (.firm 2 (.firm 3 (.firm 6 (.firm 7 (.firm 8 (.firm 9 (.firm 10 (.firm 11 (.firm 12 (.two 1 (.one 4 (.one 5 (.firm 13 (.firm 14 (.firm 15 .done))))) 4 (.one 1 (.one 5 (.firm 13 (.firm 14 (.firm 15 .done)))))))))))))))) (by kernel_rfl) (by kernel_rfl) (by intro c a d v w h; cases d <;> exact h) ?_
  intro W2 K2 C2
  (refine wpT_firm rfl (fun K hK => ?_); simp only [Keep]; go_simp; refine hK _ ?_; clear hK K)
  (refine wpT_firm rfl (fun K hK => ?_); simp only [Keep]; go_simp; refine hK _ ?_; clear hK K)
  refine wpT_load_rowN rfl rfl 97 (.tmp 4) rfl w.heap.size rfl 97 #[.int .i64 (A : Int), .slice ad L cd] (0, 0) _ (fun x hx => Keep.blkB hx X1.out id) Tryz.underlying97 rfl (by kernel_rfl) ?_
  (refine wpT_firm rfl (fun K hK => ?_); simp only [Keep]; go_simp; refine hK _ ?_; clear hK K)
  (refine wpT_firm rfl (fun K hK => ?_); simp only [Keep]; go_simp; refine hK _ ?_; clear hK K)
  (refine wpT_firm rfl (fun K hK => ?_); simp only [Keep]; go_simp; refine hK _ ?_; clear hK K)
  (refine wpT_firm rfl (fun K hK => ?_); simp only [Keep]; go_simp; refine hK _ ?_; clear hK K)
  (refine wpT_firm rfl (fun K hK => ?_); simp only [Keep]; go_simp; refine hK _ ?_; clear hK K)
  (refine wpT_firm rfl (fun K hK => ?_); simp only [Keep]; go_simp; refine hK _ ?_; clear hK K)
  (refine wpT_firm rfl (fun K hK => ?_); simp only [Keep]; go_simp; refine hK _ ?_; clear hK K)
  have D2 := Lib.hid (gr_tr D1.out C2.out)
  refine wpT_two rfl rfl ?_ ?_
  · go_wp2_with (go_at_call 50; go_loud (refine (CLN.out _ (SliceV.below SV.out D2.out)).mono ?_; rintro e w3 ⟨u, rfl, ho, hb⟩; rw [HZL.out] at ho; have O3 := Lib.hid ho; have D3 := Lib.hid (gr_tr D2.out hb); have K3 := Lib.hid (K2.out.below hb); have HBW3 := Lib.hid hb.size; clear ho hb))
    refine ⟨K3.out, ?_⟩
    refine wpT_chain rfl ?_
    go_wp2
    refine ⟨K3.out.alloc _, ?_⟩
    have D4 := Lib.hid (gr_tr D3.out (gr_alloc w3 (.cells #[.int .i64 (A : Int), .slice ad L cd] 97)))
    have K4 := Lib.hid (K3.out.alloc (.cells #[.int .i64 (A : Int), .slice ad L cd] 97))
    have O4 := Lib.hid (own_below O3.out (gr_alloc w3 (.cells #[.int .i64 (A : Int), .slice ad L cd] 97)))
    have N4 := Lib.hid (show (w3.alloc (.cells #[.int .i64 (A : Int), .slice ad L cd] 97)).heap[w3.heap.size]? = some (.cells (pcC (⟨A, d⟩, Value.slice ad L cd)).toArray 97 (0, 0)) from heap_alloc_new w3 _)
    have NE := Lib.hid (show u.ownBlock ≠ some w3.heap.size from fun e => by have := (O3.out.lt _ e).2; omega)
    have BL := Lib.hid (show W2.heap.size ≤ (w3.alloc (.cells #[.int .i64 (A : Int), .slice ad L cd] 97)).heap.size from by
      have h1 := O3.out
      have h2 := (gr_alloc w3 (.cells #[.int .i64 (A : Int), .slice ad L cd] 97)).size
      have h3 := HBW3.out
      omega)
    have HK1 := Lib.hid (show w1.heap.size ≤ W2.heap.size from C2.out.size)
    have HK2 := Lib.hid (show w.heap.size ≤ W2.heap.size from D2.out.size)
    refine wpT_chain rfl ?_
    go_wp2_with (go_at_call 62; go_loud (refine (INS.out W2.heap.size u _ _ O4.out N4.out NE.out BL.out).mono ?_; rintro e w5 ⟨u5, rfl, ho, hc⟩; have O5 := Lib.hid ho; have K5 := Lib.hid (K4.out.chgK hc (fun k hk => .inr (by have h1 := (O4.out.lt k hk).1; have h2 := HK1.out; have h3 := HK2.out; omega))); have D5 := Lib.hid (D4.out.trans (hc.below (fun k hk => by have h1 := (O4.out.lt k hk).1; have h2 := HK2.out; omega) D4.out.size)); clear ho hc))
    refine ⟨K5.out, ?_⟩
    repeat (refine wpT_firm rfl (fun K hK => ?_); simp only [Keep]; go_simp; refine hK _ ?_; clear hK K)
    unfold wpT
    go_wp2
    go_ret3
    exact ⟨u5, rfl, own_base O5.out D2.out.size, D5.out⟩
  · go_wp2
    refine ⟨K2.out.alloc _, ?_⟩
    have D3 := Lib.hid (gr_tr D2.out (gr_alloc W2 (.cells #[.int .i64 (A : Int), .slice ad L cd] 97)))
    have K3 := Lib.hid (K2.out.alloc (.cells #[.int .i64 (A : Int), .slice ad L cd] 97))
    have N3 := Lib.hid (show (W2.alloc (.cells #[.int .i64 (A : Int), .slice ad L cd] 97)).heap[W2.heap.size]? = some (.cells (pcC (⟨A, d⟩, Value.slice ad L cd)).toArray 97 (0, 0)) from heap_alloc_new W2 _)
    obtain ⟨W3, hW3⟩ : ∃ z, z = W2.alloc (.cells #[.int .i64 (A : Int), .slice ad L cd] 97) := ⟨_, rfl⟩
    have WS3 := Lib.hid (show W3.heap.size = W2.heap.size + 1 by rw [hW3, World.size_alloc])
    rw [← hW3] at D3 K3 N3 ⊢
    clear hW3
    refine wpT_chain rfl ?_
    go_wp2_with (go_at_call 50; go_loud (refine (CLN.out _ (SliceV.below SV.out D3.out)).mono ?_; rintro e w3 ⟨u, rfl, ho, hb⟩; rw [HZL.out] at ho; have O4 := Lib.hid ho; have D4 := Lib.hid (gr_tr D3.out hb); have K4 := Lib.hid (K3.out.below hb); have N4 := Lib.hid (blk_below N3.out hb); have BL := Lib.hid hb.size; clear ho hb))
    refine ⟨K4.out, ?_⟩
    have NE := Lib.hid (show u.ownBlock ≠ some W2.heap.size from fun e => by have h1 := (O4.out.lt _ e).1; have := WS3.out; omega)
    have HK1 := Lib.hid (show w1.heap.size ≤ W3.heap.size from by have := C2.out.size; have := WS3.out; omega)
    have HK2 := Lib.hid (show w.heap.size ≤ W3.heap.size from D3.out.size)
    refine wpT_chain rfl ?_
    go_wp2_with (go_at_call 62; go_loud (refine (INS.out W3.heap.size u _ _ O4.out N4.out NE.out BL.out).mono ?_; rintro e w5 ⟨u5, rfl, ho, hc⟩; have O5 := Lib.hid ho; have K5 := Lib.hid (K4.out.chgK hc (fun k hk => .inr (by have h1 := (O4.out.lt k hk).1; have h2 := HK1.out; have h3 := HK2.out; omega))); have D5 := Lib.hid (D4.out.trans (hc.below (fun k hk => by have h1 := (O4.out.lt k hk).1; have h2 := HK2.out; omega) D4.out.size)); clear ho hc))
    refine ⟨K5.out, ?_⟩
    repeat (refine wpT_firm rfl (fun K hK => ?_); simp only [Keep]; go_simp; refine hK _ ?_; clear hK K)
    unfold wpT
    go_wp2
    go_ret3
    exact ⟨u5, rfl, own_base O5.out D3.out.size, D5.out⟩
end Go.Proofs.YtabfmhlhdebcpaaGreatDoor
namespace Go.Proofs.YtabfmhlhdebcpaaGreatDoor
open Go.RowKit Fw
set_option linter.unusedVariables false
set_option linter.unusedSimpArgs false
attribute [local go_sem] Oper.semAt_some
/-- What lies in the new slices of bytes is new or was there. -/
def NewD (w : World) (dvs dvs' : List Value) : Prop := ∀ dv ∈ dvs', dv ∈ dvs ∨ ∀ b, dv.ownBlock = some b → w.heap.size ≤ b
def DlPost (p : Nat) (x : St) (dvs : List Value) (A : Nat) (d : Bs) (w : World) (e : Ending) (w' : World) : Prop :=
  ∃ lv' dvs', e = .returned (.agg (stC (dlE x A d))) ∧ SlAt w' p (dlS x A d) lv' dvs' ∧ NewD w dvs dvs' ∧ Chg (fun k => k = p) w w'
theorem dlE_kn (x : St) (A : Nat) (d : Bs) : Kn (dlE x A d) := by
  unfold dlE; split
  · exact Kn.k2
  · split
    · exact Kn.k276
    · exact Kn.k0
set_option maxRecDepth 20000 in
set_option maxHeartbeats 6400000 in
theorem Download_bad (p : Nat) (x : St) (lv : Value) (dvs : List Value) (A : Nat) (v : Value) (d : Bs) (w : World) (h : SlAt w p x lv dvs) (hv : BytesV w v d) (hA : A < 4294967296) (hd : d.length ≤ 4611686018427387904) (hbad : dlBad x.c A d.length = true) :
    Calls Tryz.prog 21 #[.pointer (some ⟨p, 0, none⟩), .int .u32 (A : Int), v] w (DlPost p x dvs A d w) := by
  obtain ⟨a, c, rfl, -⟩ := id hv
  have NON := Lib.hid (fun w h => none_at p x lv dvs w h)
  obtain ⟨W, hW⟩ : ∃ W, W = w.alloc (.cells #[.int .u8 0, .int .u8 0, .bool false, .bool false] 56) := ⟨_, rfl⟩
  have D := Lib.hid (show Below w.heap.size w W by rw [hW]; exact gr_alloc w _)
  have X := Lib.hid (show W.heap[w.heap.size]? = some (.cells #[.int .u8 0, .int .u8 0, .bool false, .bool false] 56 (0, 0)) by rw [hW]; exact heap_alloc_new w _)
  have HW := Lib.hid hW
  have S1 := Lib.hid (h.below D.out)
  have PQ := Lib.hid (show p < w.heap.size from (Array.getElem?_eq_some_iff.1 h.blk).1)
  have c3 := S1.out.cmx
  have HE := Lib.hid (show dlE x A d = 2 by unfold dlE; rw [if_pos hbad])
  have HS := Lib.hid (show dlS x A d = x by unfold dlS; rw [HE.out, if_neg (by decide)])
  unfold DlPost
  rw [HE.out, HS.out]
  unfold dlBad at hbad
  obtain ⟨mx, hmx⟩ : ∃ n, x.c.mx = n := ⟨_, rfl⟩
  rw [hmx] at c3 hbad
  obtain ⟨n, hn⟩ : ∃ n, d.length = n := ⟨_, rfl⟩
  rw [hn] at hbad hd ⊢
  clear hmx hn hW h hv
  by_cases g1 : (A : Int) % 4 = 0
  · by_cases g2 : (n : Int) % 4 = 0
    · by_cases g3 : n = 0
      · subst g3
        clear hbad
        (go_enter Tryz.func21, Tryz.ntmps21; go_upto_region 1 with fail; rw [← HW.out]; go_wp2_with (first | (go_at_call 40; go_loud (refine (NON.out _ S1.out).mono ?_; rintro e w1 ⟨rfl, rfl⟩)) | (go_at_call 41; go_loud (refine (status_at 2 _ Kn.k2).mono ?_; rintro e w1 ⟨rfl, hb⟩; have X1 := Lib.hid (blk_below X.out hb); have S2 := Lib.hid (S1.out.below hb); have D1 := Lib.hid (gr_tr D.out hb); clear hb)) | (refine wpList_store_rowC rfl 56 (.tmp 6) (.tmp 44) rfl w.heap.size (stC 2) rfl rfl 56 _ X1.out (by kernel_rfl) rfl (stC_one _) ?_; intro w9 h9 hc; have X9 := Lib.hid h9; have C9 := Lib.hid hc; clear h9 hc)); exact bodyPost_ret (results_cell_row rfl _ _ w.heap.size 56 _ (0, 0) _ rfl X9.out Tryz.underlying56 rfl (by kernel_rfl)) rfl ⟨lv, dvs, rfl, S2.out.set X1.out (by decide) (by decide) (by decide) C9.out, fun dv hd => .inl hd, newer_chg (Chg.of_below D1.out) (Nat.le_refl _) C9.out⟩)
      · have g4 : mx < (A : Int) + (n : Int) := by
          simp only [Bool.or_eq_true, Bool.not_eq_true', decide_eq_false_iff_not, decide_eq_true_eq] at hbad
          omega
        have g3' : ((n : Int) == 0) = false := by simp; omega
        clear hbad
        (go_enter Tryz.func21, Tryz.ntmps21; go_upto_region 1 with fail; rw [← HW.out]; go_wp2_with (first | (go_at_call 40; go_loud (refine (NON.out _ S1.out).mono ?_; rintro e w1 ⟨rfl, rfl⟩)) | (go_at_call 41; go_loud (refine (status_at 2 _ Kn.k2).mono ?_; rintro e w1 ⟨rfl, hb⟩; have X1 := Lib.hid (blk_below X.out hb); have S2 := Lib.hid (S1.out.below hb); have D1 := Lib.hid (gr_tr D.out hb); clear hb)) | (refine wpList_store_rowC rfl 56 (.tmp 6) (.tmp 44) rfl w.heap.size (stC 2) rfl rfl 56 _ X1.out (by kernel_rfl) rfl (stC_one _) ?_; intro w9 h9 hc; have X9 := Lib.hid h9; have C9 := Lib.hid hc; clear h9 hc)); exact bodyPost_ret (results_cell_row rfl _ _ w.heap.size 56 _ (0, 0) _ rfl X9.out Tryz.underlying56 rfl (by kernel_rfl)) rfl ⟨lv, dvs, rfl, S2.out.set X1.out (by decide) (by decide) (by decide) C9.out, fun dv hd => .inl hd, newer_chg (Chg.of_below D1.out) (Nat.le_refl _) C9.out⟩)
    · clear hbad
      (go_enter Tryz.func21, Tryz.ntmps21; go_upto_region 1 with fail; rw [← HW.out]; go_wp2_with (first | (go_at_call 40; go_loud (refine (NON.out _ S1.out).mono ?_; rintro e w1 ⟨rfl, rfl⟩)) | (go_at_call 41; go_loud (refine (status_at 2 _ Kn.k2).mono ?_; rintro e w1 ⟨rfl, hb⟩; have X1 := Lib.hid (blk_below X.out hb); have S2 := Lib.hid (S1.out.below hb); have D1 := Lib.hid (gr_tr D.out hb); clear hb)) | (refine wpList_store_rowC rfl 56 (.tmp 6) (.tmp 44) rfl w.heap.size (stC 2) rfl rfl 56 _ X1.out (by kernel_rfl) rfl (stC_one _) ?_; intro w9 h9 hc; have X9 := Lib.hid h9; have C9 := Lib.hid hc; clear h9 hc)); exact bodyPost_ret (results_cell_row rfl _ _ w.heap.size 56 _ (0, 0) _ rfl X9.out Tryz.underlying56 rfl (by kernel_rfl)) rfl ⟨lv, dvs, rfl, S2.out.set X1.out (by decide) (by decide) (by decide) C9.out, fun dv hd => .inl hd, newer_chg (Chg.of_below D1.out) (Nat.le_refl _) C9.out⟩)
  · clear hbad
    (go_enter Tryz.func21, Tryz.ntmps21; go_upto_region 1 with fail; rw [← HW.out]; go_wp2_with (first | (go_at_call 40; go_loud (refine (NON.out _ S1.out).mono ?_; rintro e w1 ⟨rfl, rfl⟩)) | (go_at_call 41; go_loud (refine (status_at 2 _ Kn.k2).mono ?_; rintro e w1 ⟨rfl, hb⟩; have X1 := Lib.hid (blk_below X.out hb); have S2 := Lib.hid (S1.out.below hb); have D1 := Lib.hid (gr_tr D.out hb); clear hb)) | (refine wpList_store_rowC rfl 56 (.tmp 6) (.tmp 44) rfl w.heap.size (stC 2) rfl rfl 56 _ X1.out (by kernel_rfl) rfl (stC_one _) ?_; intro w9 h9 hc; have X9 := Lib.hid h9; have C9 := Lib.hid hc; clear h9 hc)); exact bodyPost_ret (results_cell_row rfl _ _ w.heap.size 56 _ (0, 0) _ rfl X9.out Tryz.underlying56 rfl (by kernel_rfl)) rfl ⟨lv, dvs, rfl, S2.out.set X1.out (by decide) (by decide) (by decide) C9.out, fun dv hd => .inl hd, newer_chg (Chg.of_below D1.out) (Nat.le_refl _) C9.out⟩)
theorem take_zip {α β : Type} (l : List α) (m : List β) (i : Nat) : (l.zip m).take i = (l.take i).zip (m.take i) := by
  induction l generalizing m i with
  | nil => simp
  | cons x l ih => cases m with
    | nil => simp
    | cons y m => cases i with
      | zero => simp
      | succ i => simp [ih]
theorem drop_zip {α β : Type} (l : List α) (m : List β) (i : Nat) : (l.zip m).drop i = (l.drop i).zip (m.drop i) := by
  induction l generalizing m i with
  | nil => simp
  | cons x l ih => cases m with
    | nil => simp
    | cons y m => cases i with
      | zero => simp
      | succ i => simp [ih]
theorem zip_ins {α β : Type} (l : List α) (m : List β) (i : Nat) (x : α) (y : β) (hi : i ≤ l.length) (hl : m.length = l.length) : (l.take i ++ x :: l.drop i).zip (m.take i ++ y :: m.drop i) = (l.zip m).take i ++ (x, y) :: (l.zip m).drop i := by
  rw [List.zip_append (by rw [List.length_take, List.length_take]; omega), List.zip_cons_cons, take_zip, drop_zip]
theorem get_ins {α : Type} (l : List α) (i : Nat) (x : α) (hi : i ≤ l.length) (j : Nat) : (l.take i ++ x :: l.drop i)[j]? = if j < i then l[j]? else if j = i then some x else l[j - 1]? := by
  by_cases h1 : j < i
  · rw [if_pos h1, List.getElem?_append_left (by rw [List.length_take]; omega), List.getElem?_take_of_lt h1]
  · rw [if_neg h1, List.getElem?_append_right (by rw [List.length_take]; omega), List.length_take, Nat.min_eq_left hi]
    by_cases h2 : j = i
    · subst h2; rw [if_pos rfl, Nat.sub_self]; rfl
    · rw [if_neg h2]
      obtain ⟨k, rfl⟩ : ∃ k, j = i + k + 1 := ⟨j - i - 1, by omega⟩
      rw [show i + k + 1 - i = k + 1 by omega, List.getElem?_cons_succ, List.getElem?_drop]
      congr 1
/-- The pieces with one more. -/
theorem Fw.PcsAt.ins {T : TypeId} {w : World} {ps : List Pc} {lv u dv : Value} {dvs : List Value} {A : Nat} {d : Bs} {b1 b2 : Nat} (h : PcsAt T w ps lv dvs) (hd : w.ownsRow b1 5 1 dv d.length (by8 d))
    (hu : w.ownsRow b2 T 2 u (ps.length + 1) ((insZ (pos A ps) (⟨A, d⟩, dv) (ps.zip dvs)).flatMap pcC)) : PcsAt T w (Fw.ins A d ps) u (dvs.take (pos A ps) ++ dv :: dvs.drop (pos A ps)) := by
  have hp := pos_le A ps
  have hl : (Fw.ins A d ps).length = ps.length + 1 := by unfold Fw.ins; rw [List.length_append, List.length_cons, List.length_take, List.length_drop]; omega
  refine ⟨?_, ?_, fun j q e h1 h2 => ?_⟩
  · rw [hl]
    unfold Fw.ins
    rw [zip_ins ps dvs (pos A ps) ⟨A, d⟩ dv hp h.len]
    exact own_base hu (Nat.zero_le _)
  · rw [hl, List.length_append, List.length_cons, List.length_take, List.length_drop, h.len]; omega
  · unfold Fw.ins at h1
    rw [get_ins _ _ _ hp] at h1
    rw [get_ins _ _ _ (by rw [h.len]; exact hp)] at h2
    by_cases c1 : j < pos A ps
    · rw [if_pos c1] at h1 h2; exact h.el j q e h1 h2
    · rw [if_neg c1] at h1 h2
      by_cases c2 : j = pos A ps
      · rw [if_pos c2] at h1 h2; cases h1; cases h2; exact own_base hd (Nat.zero_le _)
      · rw [if_neg c2] at h1 h2; exact h.el _ q e h1 h2
theorem newD_ins (w : World) (dvs : List Value) (dv : Value) (i : Nat) (h : ∀ b, dv.ownBlock = some b → w.heap.size ≤ b) : NewD w dvs (dvs.take i ++ dv :: dvs.drop i) := by
  intro e he
  rcases List.mem_append.1 he with h1 | h1
  · exact .inl (List.mem_of_mem_take h1)
  · rcases List.mem_cons.1 h1 with rfl | h1
    · exact .inr h
    · exact .inl (List.mem_of_mem_drop h1)
theorem near_at {x : St} (h : Fw.Ok x) (A L : Nat) (hL : 0 < L) : x.ps.any (ovl A L) = ((match (if pos A x.ps = 0 then none else x.ps[pos A x.ps - 1]?) with | some p => decide (A < p.at_ + p.d.length) | none => false) || (match x.ps[pos A x.ps]? with | some p => decide (p.at_ < A + L) | none => false)) := ovl_near h.sep hL
set_option maxRecDepth 20000 in
set_option maxHeartbeats 12800000 in
theorem Download_ok (p : Nat) (x : St) (lv : Value) (dvs : List Value) (A : Nat) (v : Value) (d : Bs) (w : World) (h : SlAt w p x lv dvs) (hv : BytesV w v d) (hA : A < 4294967296) (hbad : dlBad x.c A d.length = false) :
    Calls Tryz.prog 21 #[.pointer (some ⟨p, 0, none⟩), .int .u32 (A : Int), v] w (DlPost p x dvs A d w) := by
  obtain ⟨a, c, rfl, -⟩ := id hv
  obtain ⟨b1, b2, b3, b4⟩ := dlBad_no hbad
  have NON := Lib.hid (fun w h => none_at p x lv dvs w h)
  obtain ⟨W, hW⟩ : ∃ W, W = w.alloc (.cells #[.int .u8 0, .int .u8 0, .bool false, .bool false] 56) := ⟨_, rfl⟩
  have D := Lib.hid (show Below w.heap.size w W by rw [hW]; exact gr_alloc w _)
  have X := Lib.hid (show W.heap[w.heap.size]? = some (.cells #[.int .u8 0, .int .u8 0, .bool false, .bool false] 56 (0, 0)) by rw [hW]; exact heap_alloc_new w _)
  have HW := Lib.hid hW
  have S1 := Lib.hid (h.below D.out)
  have V1 := Lib.hid (hv.below D.out)
  have PQ := Lib.hid (show p < w.heap.size from (Array.getElem?_eq_some_iff.1 h.blk).1)
  have c3 := S1.out.cmx
  have hmx := (cfgOk_is h.ok.cfg).2.2.2.1
  have DLE := Lib.hid (show dlE x A d = if x.ps.any (ovl A d.length) then 276 else 0 by unfold dlE; rw [hbad, if_neg (by decide)])
  have NEAR := Lib.hid (near_at h.ok A d.length (by omega))
  have OKD := Lib.hid (h.ok.dl A d)
  have FEW := Lib.hid h.few
  obtain ⟨mx, hmx'⟩ : ∃ n, x.c.mx = n := ⟨_, rfl⟩
  rw [hmx'] at c3 b4 hmx
  obtain ⟨L, hL⟩ : ∃ n, d.length = n := ⟨_, rfl⟩
  have HLL := Lib.hid hL
  rw [hL] at b2 b3 b4 V1 DLE NEAR ⊢
  have g1 : (A : Int) % 4 = 0 := by omega
  have g2 : (L : Int) % 4 = 0 := by omega
  have g3 : ((L : Int) == 0) = false := by simp; omega
  have g4 : ¬ (mx < (A : Int) + (L : Int)) := by omega
  have hAL : (A : Int) + (L : Int) ≤ 1048576 := by omega
  have HAL := Lib.hid hAL
  clear hmx' hL hW h hv hbad b1 b2 b3 b4
  go_enter Tryz.func21, Tryz.ntmps21
  go_upto_region 1 with fail
  rw [← HW.out]
  go_upto_region 6 with (first
    | (go_at_call 40; go_loud (refine (NON.out _ S1.out).mono ?_; rintro e w1 ⟨rfl, rfl⟩))
    | (go_at_call 42; go_loud (refine (Clone_any _ d _ V1.out (by rw [HLL.out]; have := HAL.out; omega)).mono ?_; rintro e w1 ⟨dv, rfl, ho, hb⟩; rw [HLL.out] at ho; obtain ⟨ad, cd, rfl⟩ := own_shape ho; have DV := Lib.hid ho; have D1 := Lib.hid (gr_tr D.out hb); have X1 := Lib.hid (blk_below X.out hb); have S2 := Lib.hid (S1.out.below hb); clear ho hb))
    | (refine wpList_store_new rfl 97 (.tmp 7) (.tmp 49) rfl #[.int .i64 (A : Int), .slice ad L cd] 97 _ rfl rfl (by kernel_rfl) rfl (by simp [Value.oneCell']) ?_; intro w2 h2 hb; have Y2 := Lib.hid h2; have B2 := Lib.hid hb; clear h2 hb))
  clear c3 g1 g2 g3 g4
  have D2 := Lib.hid (gr_tr D1.out B2.out)
  have X2 := Lib.hid (blk_below X1.out B2.out)
  have S3 := Lib.hid (S2.out.below B2.out)
  have DV2 := Lib.hid (own_below DV.out B2.out)
  obtain ⟨q7, hq7⟩ : ∃ q, w1.heap.size = q := ⟨_, rfl⟩
  rw [hq7] at Y2 ⊢
  have Q7 := Lib.hid (show w.heap.size ≤ q7 by rw [← hq7]; exact D1.out.size)
  have DVN := Lib.hid (show ∀ b, (Value.slice ad L cd).ownBlock = some b → w.heap.size ≤ b from fun b hb => by have := (DV.out.lt b hb).1; have := D.out.size; omega)
  clear hq7 DV
  obtain ⟨al, cl, hlv⟩ : ∃ a c, lv = .slice a x.ps.length c := own_shape S3.out.pcs.own
  subst hlv
  have INS := Lib.hid (fun w h => inserted_at al cl x.ps dvs A d ad cd w h S3.out.ok.sep FEW.out)
  have SL3 := Lib.hid S3.out.pcs.slice
  have c13 := S3.out.cpc
  have OWN3 := Lib.hid S3.out.pcs.own
  have ZL := Lib.hid S3.out.pcs.zlen
  have CAP := Lib.hid (show x.ps.length ≤ cl by obtain ⟨a, c, e, -, h1, -⟩ := id SL3.out; injection e with e1 e2 e3; subst e3; rw [ZL.out] at h1; exact h1)
  have POS := Lib.hid (pos_le A x.ps)
  rw [HLL.out] at INS
  obtain ⟨m, hm⟩ : ∃ m, x.ps.length = m := ⟨_, rfl⟩
  have HM := Lib.hid hm
  obtain ⟨i, hi⟩ : ∃ i, pos A x.ps = i := ⟨_, rfl⟩
  have HI := Lib.hid hi
  rw [hm, hi] at INS
  rw [hi] at NEAR POS
  rw [hm] at FEW CAP POS OWN3 c13 SL3
  obtain ⟨v2, hv2⟩ : ∃ z, Value.slice (if cl = i then al else al.map (·.add (i * 2))) (m - i) (cl - i) = z := ⟨_, rfl⟩
  rw [hv2] at INS
  have HV2 := Lib.hid hv2
  obtain ⟨n2, hn2⟩ : ∃ z, m - i = z := ⟨_, rfl⟩
  have hv2s : ∃ a2 c2, v2 = .slice a2 n2 c2 := ⟨_, _, by rw [← hv2, hn2]⟩
  obtain ⟨a2, c2, hv2e⟩ := hv2s
  have HV2E := Lib.hid hv2e
  have HN2 := Lib.hid hn2
  clear hm hi hv2 hn2
  refine wp_region_planW nowhere [(true, 0), (true, 1), (true, 2), (true, 3), (true, 4), (false, 5), (true, 6), (true, 7), (true, 8), (true, 9), (true, 10), (true, 11), (true, 12)] (by kernel_rfl) (by kernel_rfl) (by intro c a d v w h; cases d <;> exact h) ?_
  intro W3 K3 C3
  have q13 : ∀ y : KeepT nowhere w2, y.val.cell? ⟨p, 13, none⟩ = some (.slice al m cl) := fun y => y.cell c13 id
  (refine wpS_firm rfl (fun K hK => ?_); simp only [Keep]; go_simp; refine hK _ ?_; clear hK K)
  (refine wpS_firm rfl (fun K hK => ?_); simp only [Keep]; go_simp; refine hK _ ?_; clear hK K)
  (refine wpS_firm rfl (fun K hK => ?_); simp only [Keep]; go_simp; refine hK _ ?_; clear hK K)
  (refine wpS_firm rfl (fun K hK => ?_); simp only [Keep]; go_simp; refine hK _ ?_; clear hK K)
  refine wpS_load_rowM rfl rfl 97 (.tmp 7) rfl q7 rfl 97 #[.int .i64 (A : Int), .slice ad L cd] (0, 0) _ (fun x hx => Keep.blkB hx Y2.out id) Tryz.underlying97 rfl (by kernel_rfl) ?_
  refine wpS_chain rfl ?_
  go_wp2_with (go_at_call 43; go_loud (refine (INS.out _ (by have h9 := (S3.out.below C3.out).pcs; rw [← HM.out] at *; exact h9)).mono ?_; rintro e w4 ⟨u, rfl, ho, hb⟩; have U4 := Lib.hid ho; have K4 := Lib.hid (K3.out.below hb); have B4 := Lib.hid (gr_tr C3.out hb); have UN := Lib.hid (show ∀ b, u.ownBlock = some b → w.heap.size ≤ b from fun b hb => by have h1 := (ho.lt b hb).1; have := (gr_tr D2.out C3.out).size; omega); clear ho hb))
  refine ⟨K4.out, ?_⟩
  subst hv2e
  repeat (refine wpS_firm rfl (fun K hK => ?_); simp only [Keep]; go_simp; refine hK _ ?_; clear hK K)
  unfold wpS
  clear q13 c13
  have S4 := Lib.hid (S3.out.below B4.out)
  have X4 := Lib.hid (blk_below X2.out B4.out)
  have Y4 := Lib.hid (blk_below Y2.out B4.out)
  have D4 := Lib.hid (gr_tr D2.out B4.out)
  have DV4 := Lib.hid (own_below DV2.out B4.out)
  have y0 : w4.cell? ⟨q7, 0, none⟩ = some (.int .i64 (A : Int)) := (cell_of_row _ _ 0 _ _ _ Y4.out).trans rfl
  have SL4 := Lib.hid (SliceV.below SL3.out B4.out)
  obtain ⟨ov, hov⟩ : ∃ z, x.ps.any (ovl A L) = z := ⟨_, rfl⟩
  rw [hov] at NEAR DLE
  clear hov S1 S2 S3 SL3 X1 X2 Y2 D1 B2 K3 K4 C3
  go_upto_region 8 with fail
  go_cut [99] (fun v99 wx => v99 = .bool ov ∧ Below w4.heap.size w4 wx)
  case first =>
    have HL0 := HAL.out
    have GETP := Lib.hid (show ∀ (j : Nat) (y : Pc), x.ps[j]? = some y → ∃ dv, (x.ps.zip dvs)[j]? = some (y, dv) ∧ ∃ a c, dv = .slice a y.d.length c from fun j y hy => by
      obtain ⟨dv, h1, h2⟩ := S4.out.pcs.get j y hy
      exact ⟨dv, h2, own_shape (S4.out.pcs.el j y dv hy h1)⟩)
    have TOP := Lib.hid (show ∀ y ∈ x.ps, y.at_ + y.d.length ≤ 1048576 from fun y hy => by
      have h1 := S4.out.ok.top y hy
      have h2 := (cfgOk_is S4.out.ok.cfg).2.2.2.1
      omega)
    have ZL4 := Lib.hid (show (x.ps.zip dvs).length = m by rw [ZL.out]; exact HM.out)
    have HVI := HV2.out
    injection HVI with hA2 hN2 hC2
    have HA2 := Lib.hid hA2
    have HC2 := Lib.hid hC2
    clear hA2 hC2 hN2
    have AFT : ∀ k, n2 = k + 1 → ∃ (z : Pc) (g o : Nat), x.ps[i]? = some z ∧ a2 = some ⟨g, o, none⟩ ∧ w4.cell? ⟨g, o, none⟩ = some (.int .i64 ((z.at_ : Nat) : Int)) := fun k hk => by
      have him : i < m := by have := HN2.out; omega
      obtain ⟨z, hz⟩ : ∃ y, x.ps[i]? = some y := ⟨_, List.getElem?_eq_getElem (by rw [HM.out]; exact him)⟩
      obtain ⟨dz, hz1, -⟩ := GETP.out i z hz
      obtain ⟨g, o, cq, he1, hr1⟩ := SliceV.rng pcC_len SL4.out i (z, dz) hz1 (by decide)
      injection he1 with he1 he1' he1''
      refine ⟨z, g, o + i * 2, hz, ?_, hr1 0 _ rfl⟩
      have h2 := HA2.out
      rw [if_neg (by have := CAP.out; omega), he1] at h2
      rw [← h2]
      simp [Addr.add_lit]
    have BEF : ∀ j, i = j + 1 → ∃ (y : Pc) (g o : Nat) (ay : Option Addr) (cy : Nat), x.ps[j]? = some y ∧ al = some ⟨g, o, none⟩ ∧ w4.cell? ⟨g, o + j * 2, none⟩ = some (.int .i64 ((y.at_ : Nat) : Int)) ∧ w4.cell? ⟨g, o + j * 2 + 1, none⟩ = some (.slice ay y.d.length cy) := fun j hj => by
      obtain ⟨y, hy⟩ : ∃ y, x.ps[j]? = some y := ⟨_, List.getElem?_eq_getElem (by rw [HM.out]; have := POS.out; omega)⟩
      obtain ⟨dy, hy1, ay, cy, hdy⟩ := GETP.out j y hy
      obtain ⟨g, o, cq, he1, hr1⟩ := SliceV.rng pcC_len SL4.out j (y, dy) hy1 (by decide)
      injection he1 with he1 he1' he1''
      exact ⟨y, g, o, ay, cy, hy, he1, hr1 0 _ rfl, (hr1 1 _ rfl).trans (by rw [hdy])⟩
    have HAFT := Lib.hid AFT
    have HBEF := Lib.hid BEF
    clear AFT BEF
    have hA0 : (0 : Int) ≤ (A : Int) := Int.natCast_nonneg _
    have hi63 : (i : Int) ≤ 1048576 := by have := POS.out; have := FEW.out; omega
    have hn263 : (n2 : Int) ≤ 1048576 := by have := HN2.out; have := FEW.out; omega
    cases i with
    | zero =>
      cases n2 with
      | zero =>
        have NV := Lib.hid (show ov = false by rw [NEAR.out, if_pos rfl, List.getElem?_eq_none (by rw [HM.out]; have := HN2.out; omega)]; rfl)
        (go_quiet (fail); go_wp2; go_meet; exact ⟨by rw [NV.out], gr_drewN _ _⟩)
      | succ k =>
        obtain ⟨z, g, o, hz, ha2, hc⟩ := HAFT.out k rfl
        subst ha2
        have NV := Lib.hid (show ov = decide (z.at_ < A + L) by rw [NEAR.out, if_pos rfl, hz]; rfl)
        obtain ⟨az, haz⟩ : ∃ t, ((z.at_ : Nat) : Int) = t := ⟨_, rfl⟩
        rw [haz] at hc
        have hk0 : (0 : Int) < (k : Int) + 1 := by omega
        by_cases g2 : az < (A : Int) + (L : Int)
        · have HT := Lib.hid (show z.at_ < A + L by omega)
          clear hz haz
          (go_quiet (fail); go_wp2; go_meet; exact ⟨by rw [NV.out, decide_eq_true HT.out], gr_drewN _ _⟩)
        · have HT := Lib.hid (show ¬ z.at_ < A + L by omega)
          clear hz haz
          (go_quiet (fail); go_wp2; go_meet; exact ⟨by rw [NV.out, decide_eq_false HT.out], gr_drewN _ _⟩)
    | succ j =>
      obtain ⟨y, g, o, ay, cy, hy, hal, hy0, hy1⟩ := HBEF.out j rfl
      subst hal
      have hyt := TOP.out y (List.mem_of_getElem? hy)
      obtain ⟨a1, ha1⟩ : ∃ t, ((y.at_ : Nat) : Int) = t := ⟨_, rfl⟩
      obtain ⟨l1, hl1⟩ : ∃ t, y.d.length = t := ⟨_, rfl⟩
      rw [ha1] at hy0
      rw [hl1] at hy1 hyt
      have hb1 : a1 + (l1 : Int) ≤ 1048576 := by omega
      have hb0 : 0 ≤ a1 := by omega
      have hj0 : (0 : Int) < (j : Int) + 1 := by omega
      cases n2 with
      | zero =>
        have NV := Lib.hid (show ov = decide (A < y.at_ + l1) by rw [NEAR.out, if_neg (by omega), show j + 1 - 1 = j by omega, hy, List.getElem?_eq_none (by rw [HM.out]; have := HN2.out; omega), ← hl1]; simp)
        by_cases g1 : (A : Int) < a1 + (l1 : Int)
        · have HT := Lib.hid (show A < y.at_ + l1 by omega)
          clear hy ha1 hl1 hyt
          (go_quiet (fail); go_wp2; go_meet; exact ⟨by rw [NV.out, decide_eq_true HT.out], gr_drewN _ _⟩)
        · have HT := Lib.hid (show ¬ A < y.at_ + l1 by omega)
          clear hy ha1 hl1 hyt
          (go_quiet (fail); go_wp2; go_meet; exact ⟨by rw [NV.out, decide_eq_false HT.out], gr_drewN _ _⟩)
      | succ k =>
        obtain ⟨z, g', o', hz, ha2, hc⟩ := HAFT.out k rfl
        subst ha2
        have NV := Lib.hid (show ov = (decide (A < y.at_ + l1) || decide (z.at_ < A + L)) by rw [NEAR.out, if_neg (by omega), show j + 1 - 1 = j by omega, hy, hz, ← hl1])
        obtain ⟨az, haz⟩ : ∃ t, ((z.at_ : Nat) : Int) = t := ⟨_, rfl⟩
        rw [haz] at hc
        have hk0 : (0 : Int) < (k : Int) + 1 := by omega
        by_cases g1 : (A : Int) < a1 + (l1 : Int)
        · have HT := Lib.hid (show (decide (A < y.at_ + l1) || decide (z.at_ < A + L)) = true by rw [decide_eq_true (show A < y.at_ + l1 by omega)]; rfl)
          clear hy ha1 hl1 hyt hz haz
          (go_quiet (fail); go_wp2; go_meet; exact ⟨by rw [NV.out, HT.out], gr_drewN _ _⟩)
        · by_cases g2 : az < (A : Int) + (L : Int)
          · have HT := Lib.hid (show (decide (A < y.at_ + l1) || decide (z.at_ < A + L)) = true by rw [decide_eq_true (show z.at_ < A + L by omega)]; simp)
            clear hy ha1 hl1 hyt hz haz
            (go_quiet (fail); go_wp2; go_meet; exact ⟨by rw [NV.out, HT.out], gr_drewN _ _⟩)
          · have HT := Lib.hid (show (decide (A < y.at_ + l1) || decide (z.at_ < A + L)) = false by rw [decide_eq_false (show ¬ A < y.at_ + l1 by omega), decide_eq_false (show ¬ z.at_ < A + L by omega)]; rfl)
            clear hy ha1 hl1 hyt hz haz
            (go_quiet (fail); go_wp2; go_meet; exact ⟨by rw [NV.out, HT.out], gr_drewN _ _⟩)
  case rest =>
    obtain ⟨rfl, hb⟩ := hcut
    obtain ⟨w5, hw5⟩ : ∃ z, z = wc := ⟨_, rfl⟩
    subst hw5
    have S5 := Lib.hid (S4.out.below hb)
    have X5 := Lib.hid (blk_below X4.out hb)
    have D5 := Lib.hid (gr_tr D4.out hb)
    have U5 := Lib.hid (own_below U4.out hb)
    have DV5 := Lib.hid (own_below DV4.out hb)
    clear hb y0
    cases ov
    · have E0 := Lib.hid (show dlE x A d = 0 by rw [DLE.out]; rfl)
      have SS := Lib.hid (show dlS x A d = { x with ps := Fw.ins A d x.ps } by unfold dlS; rw [if_pos E0.out])
      obtain ⟨W6, hW6⟩ : ∃ z, z = w5.setCell ⟨p, 13, none⟩ u := ⟨_, rfl⟩
      have C6 := Lib.hid (show Chg (fun k => k = p) w5 W6 by rw [hW6]; exact Chg.setCell (B := fun k => k = p) (p := ⟨p, 13, none⟩) w5 rfl _)
      have S6 := Lib.hid (show SlAt W6 p (dlS x A d) u (dvs.take (pos A x.ps) ++ .slice ad L cd :: dvs.drop (pos A x.ps)) from ⟨by
        rw [SS.out, hW6]
        refine (heap_setCell_same w5 p 13 _ _ u S5.out.blk).trans ?_
        rw [St.set_last x _ u (Fw.ins A d x.ps) S5.out.ok.len], by
        rw [SS.out]
        have hP := PcsAt.ins (A := A) (d := d) (u := u) (dv := .slice ad L cd) S5.out.pcs (by rw [HLL.out]; exact DV5.out) (by rw [HI.out, HM.out]; exact U5.out)
        rw [hW6]
        exact hP.set S5.out.blk (by decide) (by decide) (Chg.setCell (B := fun k => k = p) (p := ⟨p, 13, none⟩) w5 rfl _), OKD.out⟩)
      have X6 := Lib.hid (C6.out.blk X5.out (fun e => by have e' : w.heap.size = p := e; have := PQ.out; omega))
      have HW6 := Lib.hid hW6
      have c13 := S5.out.cpc
      have f13 := S5.out.fz 13
      have ND := Lib.hid (newD_ins w dvs (.slice ad L cd) (pos A x.ps) DVN.out)
      obtain ⟨au, cu, hu⟩ := own_shape U5.out
      subst hu
      clear hW6
      go_upto_region 11 with fail
      rw [← HW6.out]
      clear HW6 c13 f13
      go_wp2_with (refine wpList_store_rowC rfl 56 (.tmp 6) (.tmp 105) rfl w.heap.size (stC 0) rfl rfl 56 _ X6.out (by kernel_rfl) rfl (stC_one _) ?_; intro w9 h9 hc; have X9 := Lib.hid h9; have C9 := Lib.hid hc; clear h9 hc)
      exact bodyPost_ret (results_cell_row rfl _ _ w.heap.size 56 _ (0, 0) _ rfl X9.out Tryz.underlying56 rfl (by kernel_rfl)) rfl ⟨_, _, by rw [E0.out], S6.out.set X6.out (by decide) (by decide) (by decide) C9.out, ND.out, newer_chg ((Chg.of_below D5.out).trans C6.out) (Nat.le_refl _) C9.out⟩
    · have E0 := Lib.hid (show dlE x A d = 276 by rw [DLE.out]; rfl)
      have SS := Lib.hid (show dlS x A d = x by unfold dlS; rw [E0.out, if_neg (by decide)])
      go_wp2_with (first
        | (go_at_call 41; go_loud (refine (status_at 276 _ Kn.k276).mono ?_; rintro e w6 ⟨rfl, hb⟩; have X6 := Lib.hid (blk_below X5.out hb); have S6 := Lib.hid (S5.out.below hb); have D6 := Lib.hid (gr_tr D5.out hb); clear hb))
        | (refine wpList_store_rowC rfl 56 (.tmp 6) (.tmp 100) rfl w.heap.size (stC 276) rfl rfl 56 _ X6.out (by kernel_rfl) rfl (stC_one _) ?_; intro w9 h9 hc; have X9 := Lib.hid h9; have C9 := Lib.hid hc; clear h9 hc))
      exact bodyPost_ret (results_cell_row rfl _ _ w.heap.size 56 _ (0, 0) _ rfl X9.out Tryz.underlying56 rfl (by kernel_rfl)) rfl ⟨_, dvs, by rw [E0.out], by rw [SS.out]; exact S6.out.set X6.out (by decide) (by decide) (by decide) C9.out, fun dv hd => .inl hd, newer_chg (Chg.of_below D6.out) (Nat.le_refl _) C9.out⟩
theorem Download_at (p : Nat) (x : St) (lv : Value) (dvs : List Value) (A : Nat) (v : Value) (d : Bs) (w : World) (h : SlAt w p x lv dvs) (hv : BytesV w v d) (hA : A < 4294967296) (hd : d.length ≤ 4611686018427387904) :
    Calls Tryz.prog 21 #[.pointer (some ⟨p, 0, none⟩), .int .u32 (A : Int), v] w (DlPost p x dvs A d w) := by
  cases hb : dlBad x.c A d.length
  · exact Download_ok p x lv dvs A v d w h hv hA hb
  · exact Download_bad p x lv dvs A v d w h hv hA hd hb
end Go.Proofs.YtabfmhlhdebcpaaGreatDoor
namespace Go.Proofs.YtabfmhlhdebcpaaGreatDoor
open Go.RowKit Fw
set_option linter.unusedVariables false
set_option linter.unusedSimpArgs false
set_option linter.unusedVariables false
set_option linter.unusedSimpArgs false
theorem Chg.fresh {B : Nat → Prop} {w w1 w2 : World} (h : Chg B w1 w2) (hb : Below w.heap.size w w1) (hq : ∀ k, B k → w.heap.size ≤ k) : Below w.heap.size w w2 :=
  hb.trans (h.below hq hb.size)
theorem wr_new (w : World) : WrAt (w.alloc (.cells #[.slice none 0 0] 83)) w.heap.size w.heap.size (.slice none 0 0) [] :=
  ⟨heap_alloc_new w _, World.ownsRow_nil _ _ _ _, by simp⟩
theorem wr_fresh {w w1 w2 : World} {base p : Nat} {v : Value} {l : List (BitVec 8)} (hw : WrAt w1 base p v l) (h : Chg (WrB p v) w1 w2) (hb : Below w.heap.size w w1) (h1 : w.heap.size ≤ p) (h2 : w.heap.size ≤ base) : Below w.heap.size w w2 :=
  h.fresh hb (fun k hk => by rcases hk with rfl | hk; exact h1; exact Nat.le_trans h2 (hw.own.lt k hk).1)
theorem pad8 {s : Bs} (h : revOk s = true) : Wire.padE s 8 = 0 ∧ Wire.pad s 8 = s ++ List.replicate (8 - s.length) 32#8 := by
  obtain ⟨h1, h2, h3, -⟩ := revOk_is h
  have he : Wire.padE s 8 = 0 := by unfold Wire.padE; rw [if_neg (by rw [h3]; simp), if_neg (by omega)]
  refine ⟨he, ?_⟩
  unfold Wire.pad
  rw [if_pos he]; rfl
theorem put4 (L : Nat) (h : L ≤ 1048564) : Wire.putE (BitVec.ofNat 64 (12 + L)) 4 = 0 ∧ Wire.putB (BitVec.ofNat 64 (12 + L)) 4 = Wire.le (BitVec.ofNat 64 (12 + L)) 4 := by
  have hz : BitVec.ofNat 64 (12 + L) >>> 32 = 0#64 := by
    apply BitVec.eq_of_toNat_eq
    rw [BitVec.toNat_ushiftRight, BitVec.toNat_ofNat, Nat.shiftRight_eq_div_pow]
    simp
    omega
  have he : Wire.putE (BitVec.ofNat 64 (12 + L)) 4 = 0 := by
    unfold Wire.putE
    rw [if_neg (by omega), if_neg (fun h => h.2 hz)]
  refine ⟨he, ?_⟩
  unfold Wire.putB
  rw [if_pos he]; rfl
theorem addL_fit (l b : Bs) (h : b.length + l.length ≤ 1048576) : addL l b 0 = l ++ b := by
  unfold addL
  rw [if_pos]
  unfold addE
  rw [if_neg (by simp), if_neg (by omega)]
theorem imgB_parts (s b : Bs) : imgB s b = ((s ++ List.replicate (8 - s.length) 32#8) ++ Wire.le (BitVec.ofNat 64 (12 + b.length)) 4) ++ b := rfl
theorem imgB_len (s b : Bs) (h : s.length ≤ 8) : (imgB s b).length = 12 + b.length := by
  rw [imgB_parts, List.length_append, List.length_append, List.length_append, List.length_replicate, Wire.le_len]; omega
set_option maxRecDepth 20000 in
theorem Image_no (s : Bs) (v : Value) (b : Bs) (w : World) (hs : s.length ≤ 9223372036854775807) (hv : BytesV w v b) (h : imgOk s b = false) :
    Calls Tryz.prog 17 #[.string (strOf s), v] w fun e w' => e = .returned (.tuple #[.slice none 0 0, .int .i64 2]) ∧ Below w.heap.size w w' := by
  obtain ⟨a, c, rfl, -⟩ := id hv
  obtain ⟨rb, hrb⟩ : ∃ b, revOk s = b := ⟨_, rfl⟩
  have REV := Lib.hid (fun w => revision_at s rb w hs hrb)
  unfold imgOk at h
  rw [hrb] at h
  obtain ⟨st, hst⟩ : ∃ z, strOf s = z := ⟨_, rfl⟩
  rw [hst] at REV ⊢
  obtain ⟨L, hL⟩ : ∃ z, b.length = z := ⟨_, rfl⟩
  rw [hL] at h ⊢
  clear hv hrb hst hL hs
  cases rb
  · clear h
    go_enter Tryz.func17, Tryz.ntmps17
    go_wp2_with (go_at_call 28; go_loud (refine (REV.out _).mono ?_; rintro e w1 ⟨rfl, hb⟩; have D1 := Lib.hid hb; clear hb))
    go_ret2
    exact ⟨rfl, D1.out⟩
  · have g : (1048564 : Int) < (L : Int) := by
      have := of_decide_eq_false (show decide (L ≤ 1048564) = false from h)
      omega
    clear h
    go_enter Tryz.func17, Tryz.ntmps17
    go_wp2_with (go_at_call 28; go_loud (refine (REV.out _).mono ?_; rintro e w1 ⟨rfl, hb⟩; have D1 := Lib.hid hb; clear hb))
    go_ret2
    exact ⟨rfl, D1.out⟩
set_option maxRecDepth 20000 in
set_option maxHeartbeats 3200000 in
theorem Image_ok (s : Bs) (v : Value) (b : Bs) (w : World) (hs : s.length ≤ 9223372036854775807) (hv : BytesV w v b) (h : imgOk s b = true) :
    Calls Tryz.prog 17 #[.string (strOf s), v] w fun e w' => ∃ u, e = .returned (.tuple #[u, .int .i64 0]) ∧ w'.ownsRow w.heap.size 5 1 u (imgB s b).length (by8 (imgB s b)) ∧ Below w.heap.size w w' := by
  obtain ⟨a, c, rfl, -⟩ := id hv
  unfold imgOk at h
  rw [Bool.and_eq_true, decide_eq_true_eq] at h
  obtain ⟨hr, hb⟩ := h
  obtain ⟨r1, r2, -⟩ := revOk_is hr
  obtain ⟨p1, p2⟩ := pad8 hr
  have REV := Lib.hid (fun w => revision_at s true w hs hr)
  have ATX := Lib.hid (fun base p u w h hb => AddText_w base p u [] s 8 (s ++ List.replicate (8 - s.length) 32#8) 0 w h hb (by omega) (by decide) p2 p1)
  have HIMG := imgB_parts s b
  have HIL := imgB_len s b r2
  have hPL : (s ++ List.replicate (8 - s.length) 32#8).length = 8 := by rw [List.length_append, List.length_replicate]; omega
  obtain ⟨P, hP⟩ : ∃ z, s ++ List.replicate (8 - s.length) 32#8 = z := ⟨_, rfl⟩
  rw [hP] at ATX HIMG hPL
  have V := Lib.hid hv
  obtain ⟨L, hL⟩ : ∃ z, b.length = z := ⟨_, rfl⟩
  rw [hL] at HIMG HIL hb ⊢
  obtain ⟨q1, q2⟩ := put4 L hb
  have AD := Lib.hid (fun base p u w h hb => Add_w base p u P (BitVec.ofNat 64 (12 + L)) 4 (Wire.le (BitVec.ofNat 64 (12 + L)) 4) 0 w h hb q2 q1)
  have hX : (Wire.le (BitVec.ofNat 64 (12 + L)) 4).length = 4 := Wire.le_len _ _
  obtain ⟨N4, hN4⟩ : ∃ z, Wire.le (BitVec.ofNat 64 (12 + L)) 4 = z := ⟨_, rfl⟩
  rw [hN4] at AD HIMG hX
  have ABX := Lib.hid (fun base p u uu w h hu hb' => AddBytes_w base p u (P ++ N4) uu b w h hu hb' (by rw [hL]; omega))
  have A1 := Lib.hid (show addL [] P 0 = P from addL_fit [] P (by rw [hPL]; simp))
  have A2 := Lib.hid (show addL P N4 0 = P ++ N4 from addL_fit P N4 (by rw [hPL, hX]; decide))
  have A3 := Lib.hid (show addL (P ++ N4) b 0 = (P ++ N4) ++ b from addL_fit (P ++ N4) b (by rw [hL, List.length_append, hPL, hX]; omega))
  have HI := Lib.hid HIMG; have HIL' := Lib.hid HIL
  obtain ⟨st, hst⟩ : ∃ z, strOf s = z := ⟨_, rfl⟩
  rw [hst] at REV ATX ⊢
  have hb63 : (L : Int) ≤ 1048564 := by omega
  obtain ⟨X, hXX⟩ : ∃ z, uv (BitVec.ofNat 64 (12 + L)) = z := ⟨_, rfl⟩
  rw [hXX] at AD
  have hconv : uv (12#64 + BitVec.ofNat 64 L) = X := by rw [← hXX]; congr 1; apply BitVec.eq_of_toNat_eq; simp [BitVec.toNat_add]
  rw [hL] at V
  clear HIMG HIL hv hr p1 p2 hP hPL hN4 hX hst hXX q1 q2 r1 r2 hs
  go_enter Tryz.func17, Tryz.ntmps17
  go_upto_region 5 with (first
    | (go_at_call 28; go_loud (refine (REV.out _).mono ?_; rintro e w1 ⟨rfl, hb1⟩; have D1 := Lib.hid hb1; clear hb1))
    | (go_at_call 33; go_loud (refine (ATX.out w1.heap.size w1.heap.size _ _ (wr_new w1) (gr_alloc w1 _).size).mono ?_; rintro e w2 ⟨rfl, ⟨v2, hw2, -⟩, hc2⟩; rw [A1.out] at hw2; have R2 := Lib.hid hw2; have hsz := Lib.hid (show w1.heap.size ≤ w2.heap.size from Nat.le_trans (gr_alloc w1 _).size hc2.size); have D2 := Lib.hid (wr_fresh (wr_new w1) hc2 (gr_tr D1.out (gr_alloc w1 _)) D1.out.size D1.out.size); clear hw2 hc2)))
  go_wp2_with (first
    | (go_at_call 34; go_loud (refine (AD.out w1.heap.size w1.heap.size _ _ R2.out (by have := D2.out.size; have := hsz.out; omega)).mono ?_; rintro e w3 ⟨rfl, ⟨v3, hw3, -⟩, hc3⟩; rw [A2.out] at hw3; have R3 := Lib.hid hw3; have D3 := Lib.hid (wr_fresh R2.out hc3 D2.out D1.out.size D1.out.size); have Z3 := Lib.hid (Nat.le_trans hsz.out hc3.size); clear hw3 hc3))
    | (go_at_call 35; go_loud (refine (ABX.out w1.heap.size w1.heap.size _ _ _ R3.out (V.out.below D3.out) Z3.out).mono ?_; rintro e w4 ⟨rfl, ⟨v4, hw4, -⟩, hc4⟩; rw [A3.out] at hw4; have R4 := Lib.hid hw4; have D4 := Lib.hid (wr_fresh R3.out hc4 D3.out D1.out.size D1.out.size); clear hw4 hc4))
    | (go_at_call 36; go_loud (refine (Bytes_w _ _ _ _ _ R4.out).mono ?_; rintro e w5 ⟨u, rfl, ho, hb5⟩; have O5 := Lib.hid ho; have D5 := Lib.hid (gr_tr D4.out hb5); clear ho hb5)))
  go_ret2
  rw [HI.out]
  exact ⟨_, rfl, own_base O5.out D4.out.size, D5.out⟩
end Go.Proofs.YtabfmhlhdebcpaaGreatDoor
namespace Go.Proofs.YtabfmhlhdebcpaaGreatDoor
open Go.RowKit Fw
set_option linter.unusedVariables false
set_option linter.unusedSimpArgs false
set_option maxRecDepth 100000 in
theorem stt_self (s : Stt) (h : s.revs.length = 7) (w : World) : (Op.equalIn (9999 + 1) 34 (.agg s.cells.toArray) (.agg s.cells.toArray)).run Tryz.prog w = .ok true w := by
  have hc : ∀ (j : Nat) v, s.cells[j]? = some v → s.cells.toArray[j]? = some v := fun j v hj => by rw [List.getElem?_toArray]; exact hj
  have hr : ∀ k, k < 7 → ∃ r, s.cells[2 + k]? = some (.string r) := fun k hk => by
    obtain ⟨r, hr⟩ : ∃ r, s.revs[k]? = some r := ⟨_, List.getElem?_eq_getElem (by omega)⟩
    refine ⟨strOf r, ?_⟩
    unfold Stt.cells revC
    rw [List.getElem?_append_right (by simp)]
    simp [hr]
  refine self_struct (by kernel_rfl) (by kernel_rfl) ?_ w
  rw [show Tryz.prog.fieldsOf 34 = _ from by unfold Program.fieldsOf; rw [Tryz.underlying34]]
  simp only [List.forall_mem_cons, List.not_mem_nil, false_implies, implies_true, and_true]
  refine ⟨?_, ?_, ?_⟩
  · exact selfAt_int (d := 9998) (k := .i64) (a := s.act) Tryz.underlying3 (hc 0 _ rfl)
  · exact selfAt_int (d := 9998) (k := .i64) (a := s.nxt) Tryz.underlying3 (hc 1 _ rfl)
  · refine selfAt_arr (d := 9998) (m := 7) (c := 1) Tryz.underlying32 (by kernel_rfl) (by kernel_rfl) (by kernel_rfl) (by kernel_rfl) (fun i hi => ?_)
    obtain ⟨r, hr⟩ := hr i hi
    refine selfAt_str (d := 9997) (a := r) Tryz.underlying9 ?_
    rw [Array.getElem?_extract]
    rw [Nat.mul_one]
    rw [if_pos (by have := Stt.cells_len s h; simp; omega)]
    exact hc _ _ hr
theorem stt_eql (s : Stt) (h : s.revs.length = 7) (w : World) : (binOp .eql 34 (.agg s.cells.toArray) (.agg s.cells.toArray)).run Tryz.prog w = .ok (.bool true) w :=
  eql_self (fun w => stt_self s h w) w
theorem stt_neq (s : Stt) (h : s.revs.length = 7) (w : World) : (binOp .neq 34 (.agg s.cells.toArray) (.agg s.cells.toArray)).run Tryz.prog w = .ok (.bool false) w := by
  rw [run_neq_struct, show (10000 : Nat) = 9999 + 1 from rfl, stt_self s h w]; rfl
theorem b8_under : Tryz.prog.underlying 42 = some (.slice (Tryz.prog.elem 42)) := by rw [show Tryz.prog.elem 42 = 5 by kernel_rfl]; exact Tryz.underlying42
theorem b8_size (w : World) : (sizeOf (Tryz.prog.elem 42)).run Tryz.prog w = .ok 1 w := by
  rw [show Tryz.prog.elem 42 = 5 by kernel_rfl]
  obtain ⟨i0, hi0, hz0, hz1, hz2⟩ := info_parts (show (Tryz.prog.info? 5).map (fun i => (i.zero, i.size, i.bytes)) = some (some (.int .u8 0), 1, 1) by kernel_rfl)
  simp [sizeOf, typeInfo, hi0, hz1]
/-- A part of own bytes. -/
theorem own_part {w : World} {base g n c : Nat} {l : Bs} (h : w.ownsRow base 5 1 (.slice (some ⟨g, 0, none⟩) n c) n (by8 l)) (lo hi : Nat) (h1 : lo ≤ hi) (h2 : hi ≤ n) : BytesV w (.slice (some ⟨g, lo, none⟩) (hi - lo) (c - lo)) ((l.take hi).drop lo) := by
  obtain ⟨hlen, hh⟩ := h
  rcases hh with ⟨h0, _⟩ | ⟨g', cap, cur, hv, hbase, hheap, hnc, hcm, hcs, htake⟩
  · cases h0
  injection hv with hv1 hv2 hv3
  injection hv1 with hv1
  injection hv1 with hv1 hv4
  subst hv1; subst hv3
  have hl : l.length = n := by unfold by8 at hlen; rw [List.length_map] at hlen; omega
  have hll : ((l.take hi).drop lo).length = hi - lo := by rw [List.length_drop, List.length_take]; omega
  have hmx : c ≤ 9223372036854775807 := hcm
  refine ⟨some ⟨g, lo, none⟩, c - lo, by rw [hll], by simp, by rw [hll]; omega, by omega, .inr ⟨g, lo, rfl, fun i hi' => ?_⟩⟩
  have hi2 : i < hi - lo := by rw [← hll]; unfold by8 at hi'; rw [List.length_map] at hi'; exact hi'
  rw [cell_of_row _ _ _ _ _ _ hheap]
  have e1 : (by8 ((l.take hi).drop lo))[i]? = (by8 l)[lo + i]? := by
    unfold by8
    rw [List.getElem?_map, List.getElem?_map, List.getElem?_drop, List.getElem?_take_of_lt (by omega)]
  rw [e1, ← htake, List.getElem?_take_of_lt (by omega), Array.getElem?_toList]
theorem run_part_l (w : World) (g n c lo : Nat) (h : lo < n) (hn : n ≤ c) : (Instr.slice 42 (.slice (some ⟨g, 0, none⟩) n c) (some (.int .i64 (lo : Int))) none none).run Tryz.prog w = .ok (.slice (some ⟨g, lo, none⟩) (n - lo) (c - lo)) w := by
  rw [run_slice_l w 42 (some ⟨g, 0, none⟩) n c b8_under .i64 lo (by omega) (by omega), b8_size]
  simp [Result.andThen, sliced, Addr.add, show ¬ c = lo by omega]
  intro h; exact h.symm
theorem run_part_h (w : World) (g n c hi : Nat) (h : hi ≤ n) (hn : n ≤ c) : (Instr.slice 42 (.slice (some ⟨g, 0, none⟩) n c) none (some (.int .i64 (hi : Int))) none).run Tryz.prog w = .ok (.slice (some ⟨g, 0, none⟩) hi c) w := by
  rw [run_slice_h w 42 (some ⟨g, 0, none⟩) n c b8_under .i64 hi (by omega) (by omega), b8_size]
  simp [Result.andThen, sliced, Addr.add]
theorem run_part (w : World) (g n c lo hi : Nat) (h1 : lo < hi) (h : hi ≤ n) (hn : n ≤ c) : (Instr.slice 42 (.slice (some ⟨g, 0, none⟩) n c) (some (.int .i64 (lo : Int))) (some (.int .i64 (hi : Int))) none).run Tryz.prog w = .ok (.slice (some ⟨g, lo, none⟩) (hi - lo) (c - lo)) w := by
  rw [run_slice_lh w 42 (some ⟨g, 0, none⟩) n c b8_under .i64 .i64 (lo : Int) (hi : Int) (by omega) (by omega) (by omega), b8_size]
  simp [Result.andThen, sliced, Addr.add, show ¬ c = lo by omega]
  intro h; exact h.symm
theorem own_cap {w : World} {base g n c : Nat} {e : TypeId} {s : Nat} {xs : List Value} (h : w.ownsRow base e s (.slice (some ⟨g, 0, none⟩) n c) n xs) : n ≤ c ∧ c ≤ 9223372036854775807 := by
  obtain ⟨-, ⟨h0, -⟩ | ⟨g', cap, cur, hv, -, -, hnc, hcm, -⟩⟩ := h
  · cases h0
  · injection hv with hv1 hv2 hv3
    subst hv3; exact ⟨hnc, hcm⟩
namespace Fw
def kc : Cfg := ⟨2, true, [49#8], 64⟩
def kb : Bs := [50#8, 32#8, 32#8, 32#8, 32#8, 32#8, 32#8, 32#8, 16#8, 0#8, 0#8, 0#8, 0#8, 0#8, 0#8, 0#8]
theorem kb_is : imgB [50#8] [0#8, 0#8, 0#8, 0#8] = kb := by decide +kernel
def k0 : St := new kc
def k1 : St := dlS k0 4 (kb.drop 4)
def k2 : St := dlS k1 0 (kb.take 4)
def k3 : St := cmS k2 0 1
def k4 : St := rsS k3
theorem ke1 : dlE k0 4 (kb.drop 4) = 0 := by decide +kernel
theorem ke2 : dlE k1 0 (kb.take 4) = 0 := by decide +kernel
theorem ke3 : dlE k2 8 (kb.take 4) = 276 := by decide +kernel
theorem kd3 : dlS k2 8 (kb.take 4) = k2 := by unfold dlS; rw [ke3]; rfl
theorem ke4 : cmE k2 1 0 = 262 := by decide +kernel
theorem kd4 : cmS k2 1 0 = k2 := by
  unfold cmS
  rw [if_neg (by decide), if_neg (by decide), if_neg (by decide), if_neg (fun h => absurd h.1 (by decide))]
  unfold stS
  rw [if_neg (by decide +kernel)]
theorem ke5 : cmE k2 0 1 = 0 := by decide +kernel
theorem ks3 : k3.s.cells.toArray = #[.int .i64 1, .int .i64 2, .string ⟨#[49]⟩, .string ⟨#[50]⟩, .string ⟨#[]⟩, .string ⟨#[]⟩, .string ⟨#[]⟩, .string ⟨#[]⟩, .string ⟨#[]⟩] := by kernel_rfl
theorem kr3 : rsB k3 = true := by decide +kernel
theorem ks4 : k4.s.cells.toArray = #[.int .i64 2, .int .i64 0, .string ⟨#[49]⟩, .string ⟨#[50]⟩, .string ⟨#[]⟩, .string ⟨#[]⟩, .string ⟨#[]⟩, .string ⟨#[]⟩, .string ⟨#[]⟩] := by kernel_rfl
theorem ke6 : cmE k4 0 0 = 262 := by decide +kernel
theorem kl3 : k3.s.revs.length = 7 := by kernel_rfl
theorem kl4 : k4.s.revs.length = 7 := by kernel_rfl
end Fw
end Go.Proofs.YtabfmhlhdebcpaaGreatDoor
namespace Go.Proofs.YtabfmhlhdebcpaaGreatDoor
open Go.RowKit Fw
set_option linter.unusedVariables false
set_option linter.unusedSimpArgs false
attribute [local go_sem] Oper.semAt_some
theorem kc_R : kc.R := ⟨by unfold I64 kc; decide, by decide, by unfold I64 kc; decide⟩
theorem kc_ok : cfgOk kc = true := by decide +kernel
/-- A change in the block p alone leaves own bytes. -/
theorem own_p {w w' : World} {base n p : Nat} {v : Value} {xs : List Value} {cs : Array Value} (h : w.ownsRow base 5 1 v n xs) (hp : w.heap[p]? = some (.cells cs 74 (0, 0))) (hc : Chg (fun k => k = p) w w') : w'.ownsRow base 5 1 v n xs :=
  own_chg h hc (fun k hk e => by have e' : k = p := e; subst e'; exact own_apartB2 h hp (by decide) hk)
theorem wpList_load_rowG {P : Program} {ops : Array Oper} {rest : List Oper} {o : Oper} {a : Act} {w : World} {Q : Exit → Act → World → Prop} (hw : Region.wanted o (yielded ops a.tmps) = true) (ty : TypeId) (x : Operand) (ho : o.op = .load ty x)
    (g : Nat) (hx : a.eval x = .pointer (some ⟨g, 0, none⟩)) (t : TypeId) (cs : Array Value) (fr : Nat × Nat) (d : TypeDesc) (hg : w.heap[g]? = some (.cells cs t fr))
    (hu : P.underlying ty = some d) (hd : (match d with | .struct _ | .array _ _ => true | _ => false) = true) (hi : (P.info? ty).map (·.size) = some cs.size)
    (h : wpList P ops Q rest (a.put o.dst (.agg cs)) w) : wpList P ops Q (o :: rest) a w :=
  wpList_step fun K hK => by
    rw [if_pos hw]
    unfold Oper.wp execOp
    simp only [ho, hx, Instr.loadAt, Instr.sureAddr, Sem.run_bind, Sem.run_pure, Result.andThen_ok, run_loadVar_row w g t ty cs fr d hg hu hd hi]
    exact hK _ _ h
set_option maxRecDepth 20000 in
set_option maxHeartbeats 6400000 in
theorem known_any (w : World) : Calls Tryz.prog 12 #[] w fun e w' => e = .returned (.bool true) ∧ Below w.heap.size w w' := by
  have NEW := Lib.hid (fun w => (show Calls Tryz.prog 10 #[.agg #[.int .i64 2, .bool true, .string ⟨#[49]⟩, .int .i64 64]] w _ from New_ok kc w kc_R kc_ok))
  have IMG := Lib.hid (fun v w h => (show Calls Tryz.prog 17 #[.string ⟨#[50]⟩, v] w _ from Image_ok [50#8] v [0#8, 0#8, 0#8, 0#8] w (by decide) h (by decide +kernel)))
  have KB := Lib.hid kb_is
  go_enter Tryz.func12, Tryz.ntmps12
  go_upto_region 3 with (first
    | (go_at_call 10; go_loud (refine (NEW.out _).mono ?_; rintro e w1 ⟨p, rfl, hs, hp, hb⟩; have S1 := Lib.hid hs; have P1 := Lib.hid hp; have D1 := Lib.hid hb; clear hs hp hb))
    | (refine make_law bytesOk rfl _ _ rfl w1.heap.size .i64 .i64 4 4 4 rfl rfl rfl rfl (by omega) (by omega) (Nat.le_refl _) ?_; intro w2 hown hgrow; have M2 := Lib.hid (show w2.ownsRow w1.heap.size 5 1 (.slice (some ⟨w1.heap.size, 0, none⟩) 4 4) [0#8, 0#8, 0#8, 0#8].length (by8 [0#8, 0#8, 0#8, 0#8]) from (by rw [by8_made] at hown; exact hown)); have B2 := Lib.hid ((Below.refl w1.heap.size w1).grown hgrow (Nat.le_refl _) (by intro k hk; cases hk)); clear hown hgrow)
    | (go_at_call 17; go_loud (refine (IMG.out _ _ (BytesV.of_own M2.out)).mono ?_; rintro e w3 ⟨u, rfl, ho, hb⟩; rw [KB.out] at ho; have O3 := Lib.hid (show w3.ownsRow w2.heap.size 5 1 u 16 (by8 kb) from ho); have B3 := Lib.hid (gr_tr B2.out hb); clear ho hb)))
  obtain ⟨au, cu, hu⟩ := own_shape O3.out
  subst hu
  obtain ⟨g, hg⟩ := own_some O3.out (by decide)
  subst hg
  have hcap := (own_cap O3.out).1
  have hmax := (own_cap O3.out).2
  have c0 : w3.cell? ⟨g, 0, none⟩ = some (.int .u8 50) := by have h := BytesV.cellAt (BytesV.of_own (show w3.ownsRow w2.heap.size 5 1 (.slice (some ⟨g, 0, none⟩) 16 cu) kb.length (by8 kb) from O3.out)) (i := 0) (x := 50#8) rfl; exact h
  have c1 : w3.cell? ⟨g, 1, none⟩ = some (.int .u8 32) := by have h := BytesV.cellAt (BytesV.of_own (show w3.ownsRow w2.heap.size 5 1 (.slice (some ⟨g, 0, none⟩) 16 cu) kb.length (by8 kb) from O3.out)) (i := 1) (x := 32#8) rfl; exact h
  have c8 : w3.cell? ⟨g, 8, none⟩ = some (.int .u8 16) := by have h := BytesV.cellAt (BytesV.of_own (show w3.ownsRow w2.heap.size 5 1 (.slice (some ⟨g, 0, none⟩) 16 cu) kb.length (by8 kb) from O3.out)) (i := 8) (x := 16#8) rfl; exact h
  have r1 : ∀ w', (Instr.slice 42 (.slice (some ⟨g, 0, none⟩) 16 cu) (some (.int .i64 4)) none none).run Tryz.prog w' = .ok (.slice (some ⟨g, 4, none⟩) 12 (cu - 4)) w' := fun w' => run_part_l w' g 16 cu 4 (by decide) hcap
  have r2 : ∀ w', (Instr.slice 42 (.slice (some ⟨g, 0, none⟩) 16 cu) none (some (.int .i64 4)) none).run Tryz.prog w' = .ok (.slice (some ⟨g, 0, none⟩) 4 cu) w' := fun w' => run_part_h w' g 16 cu 4 (by decide) hcap
  have PT1 := Lib.hid (show ∀ w', w'.ownsRow w2.heap.size 5 1 (.slice (some ⟨g, 0, none⟩) 16 cu) 16 (by8 kb) → BytesV w' (.slice (some ⟨g, 4, none⟩) 12 (cu - 4)) (kb.drop 4) from fun w' h => own_part h 4 16 (by decide) (by decide))
  have PT2 := Lib.hid (show ∀ w', w'.ownsRow w2.heap.size 5 1 (.slice (some ⟨g, 0, none⟩) 16 cu) 16 (by8 kb) → BytesV w' (.slice (some ⟨g, 0, none⟩) 4 cu) (kb.take 4) from fun w' h => own_part h 0 4 (by decide) (by decide))
  have S3 := Lib.hid (S1.out.below B3.out)
  have D3 := Lib.hid (gr_tr D1.out B3.out)
  have hcb : ¬ (cu < 4) := by omega
  clear hcap
  have DL1 := Lib.hid (fun lv dvs w h hv => (show Calls Tryz.prog 21 #[.pointer (some ⟨p, 0, none⟩), .int .u32 4, .slice (some ⟨g, 4, none⟩) 12 (cu - 4)] w (fun e w' => ∃ lv' dvs', e = .returned (.agg (stC 0)) ∧ SlAt w' p k1 lv' dvs' ∧ Chg (fun k => k = p) w w') from (Download_at p k0 lv dvs 4 _ (kb.drop 4) w h hv (by decide) (by decide)).mono (fun e w' ⟨lv', dvs', h1, h2, _, h4⟩ => ⟨lv', dvs', by rw [h1, ke1], h2, h4⟩)))
  have DL2 := Lib.hid (fun lv dvs w h hv => (show Calls Tryz.prog 21 #[.pointer (some ⟨p, 0, none⟩), .int .u32 0, .slice (some ⟨g, 0, none⟩) 4 cu] w (fun e w' => ∃ lv' dvs', e = .returned (.agg (stC 0)) ∧ SlAt w' p k2 lv' dvs' ∧ Chg (fun k => k = p) w w') from (Download_at p k1 lv dvs 0 _ (kb.take 4) w h hv (by decide) (by decide)).mono (fun e w' ⟨lv', dvs', h1, h2, _, h4⟩ => ⟨lv', dvs', by rw [h1, ke2], h2, h4⟩)))
  have DL3 := Lib.hid (fun lv dvs w h hv => (show Calls Tryz.prog 21 #[.pointer (some ⟨p, 0, none⟩), .int .u32 8, .slice (some ⟨g, 0, none⟩) 4 cu] w (fun e w' => ∃ lv' dvs', e = .returned (.agg (stC 276)) ∧ SlAt w' p k2 lv' dvs' ∧ Chg (fun k => k = p) w w') from (Download_at p k2 lv dvs 8 _ (kb.take 4) w h hv (by decide) (by decide)).mono (fun e w' ⟨lv', dvs', h1, h2, _, h4⟩ => ⟨lv', dvs', by rw [h1, ke3], by rw [← kd3]; exact h2, h4⟩)))
  have CM1 := Lib.hid (fun lv dvs w h => (show Calls Tryz.prog 22 #[.pointer (some ⟨p, 0, none⟩), .int .i64 1, .int .i64 0] w (fun e w' => ∃ lv' dvs', e = .returned (.agg (stC 262)) ∧ SlAt w' p k2 lv' dvs' ∧ Chg (fun k => k = p) w w') from (Commit_at p k2 lv dvs 1 0 w h).mono (fun e w' ⟨lv', dvs', h1, h2, h4⟩ => ⟨lv', dvs', by rw [h1, ke4], by rw [← kd4]; exact h2, h4⟩)))
  have CM2 := Lib.hid (fun lv dvs w h => (show Calls Tryz.prog 22 #[.pointer (some ⟨p, 0, none⟩), .int .i64 0, .int .i64 1] w (fun e w' => ∃ lv' dvs', e = .returned (.agg (stC 0)) ∧ SlAt w' p k3 lv' dvs' ∧ Chg (fun k => k = p) w w') from (Commit_at p k2 lv dvs 0 1 w h).mono (fun e w' ⟨lv', dvs', h1, h2, h4⟩ => ⟨lv', dvs', by rw [h1, ke5], h2, h4⟩)))
  have CM3 := Lib.hid (fun lv dvs w h => (show Calls Tryz.prog 22 #[.pointer (some ⟨p, 0, none⟩), .int .i64 0, .int .i64 0] w (fun e w' => e = .returned (.agg (stC 262)) ∧ Chg (fun k => k = p) w w') from (Commit_at p k4 lv dvs 0 0 w h).mono (fun e w' ⟨lv', dvs', h1, h2, h4⟩ => ⟨by rw [h1, ke6], h4⟩)))
  have IS0 := Lib.hid (fun w => (show Calls Tryz.prog 20 #[.agg (stC 0), .int .i64 0] w _ from is_at 0 0 true w Kn.k0 rfl))
  have IS276 := Lib.hid (fun w => (show Calls Tryz.prog 20 #[.agg (stC 276), .int .i64 276] w _ from is_at 276 276 true w Kn.k276 rfl))
  have IS262 := Lib.hid (fun w => (show Calls Tryz.prog 20 #[.agg (stC 262), .int .i64 262] w _ from is_at 262 262 true w Kn.k262 rfl))
  have hx3 : ∀ w', (binOp .eql 34 (.agg #[.int .i64 1, .int .i64 2, .string ⟨#[49]⟩, .string ⟨#[50]⟩, .string ⟨#[]⟩, .string ⟨#[]⟩, .string ⟨#[]⟩, .string ⟨#[]⟩, .string ⟨#[]⟩]) (.agg #[.int .i64 1, .int .i64 2, .string ⟨#[49]⟩, .string ⟨#[50]⟩, .string ⟨#[]⟩, .string ⟨#[]⟩, .string ⟨#[]⟩, .string ⟨#[]⟩, .string ⟨#[]⟩])).run Tryz.prog w' = .ok (.bool true) w' := fun w' => by have h := stt_eql k3.s kl3 w'; rw [ks3] at h; exact h
  have hx4 : ∀ w', (binOp .eql 34 (.agg #[.int .i64 2, .int .i64 0, .string ⟨#[49]⟩, .string ⟨#[50]⟩, .string ⟨#[]⟩, .string ⟨#[]⟩, .string ⟨#[]⟩, .string ⟨#[]⟩, .string ⟨#[]⟩]) (.agg #[.int .i64 2, .int .i64 0, .string ⟨#[49]⟩, .string ⟨#[50]⟩, .string ⟨#[]⟩, .string ⟨#[]⟩, .string ⟨#[]⟩, .string ⟨#[]⟩, .string ⟨#[]⟩])).run Tryz.prog w' = .ok (.bool true) w' := fun w' => by have h := stt_eql k4.s kl4 w'; rw [ks4] at h; exact h
  have HX3 := Lib.hid hx3; have HX4 := Lib.hid hx4
  clear hx3 hx4
  have ST3 := Lib.hid (fun lv dvs w h => (show Calls Tryz.prog 23 #[.pointer (some ⟨p, 0, none⟩)] w (fun e w' => e = .returned (.agg #[.int .i64 1, .int .i64 2, .string ⟨#[49]⟩, .string ⟨#[50]⟩, .string ⟨#[]⟩, .string ⟨#[]⟩, .string ⟨#[]⟩, .string ⟨#[]⟩, .string ⟨#[]⟩]) ∧ Below w.heap.size w w') from (State_at p k3 lv dvs w h).mono (fun e w' ⟨h1, h2⟩ => ⟨by rw [h1, ks3], h2⟩)))
  have ST4 := Lib.hid (fun lv dvs w h => (show Calls Tryz.prog 23 #[.pointer (some ⟨p, 0, none⟩)] w (fun e w' => e = .returned (.agg #[.int .i64 2, .int .i64 0, .string ⟨#[49]⟩, .string ⟨#[50]⟩, .string ⟨#[]⟩, .string ⟨#[]⟩, .string ⟨#[]⟩, .string ⟨#[]⟩, .string ⟨#[]⟩]) ∧ Below w.heap.size w w') from (State_at p k4 lv dvs w h).mono (fun e w' ⟨h1, h2⟩ => ⟨by rw [h1, ks4], h2⟩)))
  have RS := Lib.hid (fun lv dvs w h => (show Calls Tryz.prog 24 #[.pointer (some ⟨p, 0, none⟩)] w (fun e w' => e = .returned (.tuple #[.bool true, .int .i64 0]) ∧ SlAt w' p k4 (.slice none 0 0) [] ∧ Chg (fun k => k = p) w w') from (Reset_at p k3 lv dvs w h).mono (fun e w' ⟨h1, h2, h3⟩ => ⟨by rw [h1, kr3], h2, h3⟩)))
  go_upto_region 5 with fail
  clear c0 c1 c8
  go_upto_region 7 with (first
    | (have hchk := S7; clear hchk; go_at_call 21; go_loud ((with_reducible refine (DL3.out _ _ _ S7.out (PT2.out _ O7.out)).mono ?_); rintro e w8 ⟨lv8, dvs8, rfl, hs, hc⟩; have S8 := Lib.hid hs; have O8 := Lib.hid (own_p O7.out S7.out.blk hc); have D8 := Lib.hid (D7.out.trans (hc.below (fun k e => by have e' : k = p := e; have := P1.out; have := D1.out.size; omega) D7.out.size)); clear hs hc))
    | (have hchk := S5; clear hchk; go_at_call 21; go_loud ((with_reducible refine (DL2.out _ _ _ S5.out (PT2.out _ O5.out)).mono ?_); rintro e w6 ⟨lv6, dvs6, rfl, hs, hc⟩; have S6 := Lib.hid hs; have O6 := Lib.hid (own_p O5.out S5.out.blk hc); have D6 := Lib.hid (D5.out.trans (hc.below (fun k e => by have e' : k = p := e; have := P1.out; have := D1.out.size; omega) D5.out.size)); clear hs hc))
    | (have hchk := S3; clear hchk; go_at_call 21; go_loud ((with_reducible refine (DL1.out _ _ _ S3.out (PT1.out _ O3.out)).mono ?_); rintro e w4 ⟨lv4, dvs4, rfl, hs, hc⟩; have S4 := Lib.hid hs; have O4 := Lib.hid (own_p O3.out S3.out.blk hc); have D4 := Lib.hid (D3.out.trans (hc.below (fun k e => by have e' : k = p := e; have := P1.out; have := D1.out.size; omega) D3.out.size)); clear hs hc))
    | (have hchk := S11; clear hchk; go_at_call 22; go_loud ((with_reducible refine (CM2.out _ _ _ S11.out).mono ?_); rintro e w12 ⟨lv12, dvs12, rfl, hs, hc⟩; have S12 := Lib.hid hs; have O12 := Lib.hid (own_p O11.out S11.out.blk hc); have D12 := Lib.hid (D11.out.trans (hc.below (fun k e => by have e' : k = p := e; have := P1.out; have := D1.out.size; omega) D11.out.size)); clear hs hc))
    | (have hchk := S9; clear hchk; go_at_call 22; go_loud ((with_reducible refine (CM1.out _ _ _ S9.out).mono ?_); rintro e w10 ⟨lv10, dvs10, rfl, hs, hc⟩; have S10 := Lib.hid hs; have O10 := Lib.hid (own_p O9.out S9.out.blk hc); have D10 := Lib.hid (D9.out.trans (hc.below (fun k e => by have e' : k = p := e; have := P1.out; have := D1.out.size; omega) D9.out.size)); clear hs hc))
    | (have hchk := S12; clear hchk; go_at_call 20; go_loud ((with_reducible refine (IS0.out _).mono ?_); rintro e w13 ⟨rfl, hb⟩; have S13 := Lib.hid (S12.out.below hb); have O13 := Lib.hid (own_below O12.out hb); have D13 := Lib.hid (gr_tr D12.out hb); clear hb))
    | (have hchk := S10; clear hchk; go_at_call 20; go_loud ((with_reducible refine (IS262.out _).mono ?_); rintro e w11 ⟨rfl, hb⟩; have S11 := Lib.hid (S10.out.below hb); have O11 := Lib.hid (own_below O10.out hb); have D11 := Lib.hid (gr_tr D10.out hb); clear hb))
    | (have hchk := S8; clear hchk; go_at_call 20; go_loud ((with_reducible refine (IS276.out _).mono ?_); rintro e w9 ⟨rfl, hb⟩; have S9 := Lib.hid (S8.out.below hb); have O9 := Lib.hid (own_below O8.out hb); have D9 := Lib.hid (gr_tr D8.out hb); clear hb))
    | (have hchk := S6; clear hchk; go_at_call 20; go_loud ((with_reducible refine (IS0.out _).mono ?_); rintro e w7 ⟨rfl, hb⟩; have S7 := Lib.hid (S6.out.below hb); have O7 := Lib.hid (own_below O6.out hb); have D7 := Lib.hid (gr_tr D6.out hb); clear hb))
    | (have hchk := S4; clear hchk; go_at_call 20; go_loud ((with_reducible refine (IS0.out _).mono ?_); rintro e w5 ⟨rfl, hb⟩; have S5 := Lib.hid (S4.out.below hb); have O5 := Lib.hid (own_below O4.out hb); have D5 := Lib.hid (gr_tr D4.out hb); clear hb)))
  clear r1 r2 hcb
  go_upto_region 8 with (first
    | (have hchk := S13; clear hchk; go_at_call 23; go_loud ((with_reducible refine (ST3.out _ _ _ S13.out).mono ?_); rintro e w14 ⟨rfl, hb⟩; have S14 := Lib.hid (S13.out.below hb); have D14 := Lib.hid (gr_tr D13.out hb); clear hb))
    | (refine wpList_store_new rfl 34 (.tmp 5) (.tmp 83) rfl #[.int .i64 1, .int .i64 2, .string ⟨#[49]⟩, .string ⟨#[50]⟩, .string ⟨#[]⟩, .string ⟨#[]⟩, .string ⟨#[]⟩, .string ⟨#[]⟩, .string ⟨#[]⟩] 34 _ rfl rfl (by kernel_rfl) rfl (by simp [Value.oneCell']) ?_; intro w15 h15 hb; have X15 := Lib.hid h15; have B15 := Lib.hid hb; clear h15 hb))
  have S15 := Lib.hid (S14.out.below B15.out)
  have D15 := Lib.hid (gr_tr D14.out B15.out)
  obtain ⟨q5, hq5⟩ : ∃ q, w14.heap.size = q := ⟨_, rfl⟩
  have PQ5 := Lib.hid (show p < q5 by rw [← hq5]; exact (Array.getElem?_eq_some_iff.1 S14.out.blk).1)
  rw [hq5] at X15 ⊢
  go_upto_region 10 with (first
    | (have hchk := S15; clear hchk; go_at_call 24; go_loud ((with_reducible refine (RS.out _ _ _ S15.out).mono ?_); rintro e w16 ⟨rfl, hs, hc⟩; have S16 := Lib.hid hs; have X16 := Lib.hid (hc.blk X15.out (fun e => by have e' : q5 = p := e; have := PQ5.out; omega)); have D16 := Lib.hid (D15.out.trans (hc.below (fun k e => by have e' : k = p := e; have := P1.out; have := D1.out.size; omega) D15.out.size)); clear hs hc))
    | (have hchk := S16; clear hchk; go_at_call 23; go_loud ((with_reducible refine (ST4.out _ _ _ S16.out).mono ?_); rintro e w17 ⟨rfl, hb⟩; have S17 := Lib.hid (S16.out.below hb); have X17 := Lib.hid (blk_below X16.out hb); have D17 := Lib.hid (gr_tr D16.out hb); clear hb))
    | (refine wpList_store_new rfl 34 (.tmp 8) (.tmp 90) rfl #[.int .i64 2, .int .i64 0, .string ⟨#[49]⟩, .string ⟨#[50]⟩, .string ⟨#[]⟩, .string ⟨#[]⟩, .string ⟨#[]⟩, .string ⟨#[]⟩, .string ⟨#[]⟩] 34 _ rfl rfl (by kernel_rfl) rfl (by simp [Value.oneCell']) ?_; intro w18 h18 hb; have Y18 := Lib.hid h18; have B18 := Lib.hid hb; clear h18 hb))
  have S18 := Lib.hid (S17.out.below B18.out)
  have X18 := Lib.hid (blk_below X17.out B18.out)
  have D18 := Lib.hid (gr_tr D17.out B18.out)
  obtain ⟨q8, hq8⟩ : ∃ q, w17.heap.size = q := ⟨_, rfl⟩
  rw [hq8] at Y18 ⊢
  have hx3 := HX3.out
  have hx4 := HX4.out
  go_wp2_with (first
    | (refine wpList_load_row rfl 34 (.tmp 5) rfl q5 rfl 34 #[.int .i64 1, .int .i64 2, .string ⟨#[49]⟩, .string ⟨#[50]⟩, .string ⟨#[]⟩, .string ⟨#[]⟩, .string ⟨#[]⟩, .string ⟨#[]⟩, .string ⟨#[]⟩] (0, 0) _ X18.out Tryz.underlying34 rfl (by kernel_rfl) ?_)
    | (refine wpList_load_rowG (by rfl) 34 (.tmp 8) rfl q8 rfl 34 #[.int .i64 2, .int .i64 0, .string ⟨#[49]⟩, .string ⟨#[50]⟩, .string ⟨#[]⟩, .string ⟨#[]⟩, .string ⟨#[]⟩, .string ⟨#[]⟩, .string ⟨#[]⟩] (0, 0) _ Y18.out Tryz.underlying34 rfl (by kernel_rfl) ?_)
    | (have hchk := S18; clear hchk; go_at_call 22; go_loud ((with_reducible refine (CM3.out _ _ _ S18.out).mono ?_); rintro e w19 ⟨rfl, hc⟩; have D19 := Lib.hid (D18.out.trans (hc.below (fun k e => by have e' : k = p := e; have := P1.out; have := D1.out.size; omega) D18.out.size)); clear hc))
    | (go_at_call 20; go_loud ((with_reducible refine (IS262.out _).mono ?_); rintro e w20 ⟨rfl, hb⟩; have D20 := Lib.hid (gr_tr D19.out hb); clear hb)))
  go_ret
  exact ⟨rfl, D20.out⟩
end Go.Proofs.YtabfmhlhdebcpaaGreatDoor
namespace Go.Proofs.YtabfmhlhdebcpaaGreatDoor
open Go.RowKit Fw
set_option linter.unusedVariables false
set_option linter.unusedSimpArgs false
theorem run_tail_bytes (w : World) (ty : TypeId) (base : Nat) (v : Value) (l m : List (BitVec 8)) (src : Value) (hy : BytesV w src m) (h : OwnT w base v l) (h0 : l ≠ []) (hb : base ≤ w.heap.size) (hs : l.length + m.length ≤ 140737488355328) :
    ∃ v' w', (Builtin.append_ #[42, 42] ty #[v, src]).run Tryz.prog w = .ok v' w' ∧ OwnT w' base v' (l ++ m) ∧ Below base w w' := by
  obtain ⟨i, hi, hz0, hz1, hz2⟩ := bytesOk.info
  have hs1 : i.size = 1 := hz1
  rcases h with ⟨rfl, rfl⟩ | ⟨g, cap, cur, fz, rfl, hbg, hg, hf, hn, hc, hcs, ht⟩
  · exact absurd rfl h0
  obtain ⟨sa, sc, rfl, hnil, hmc, hc9, hrow⟩ := hy
  cases sa with
  | none =>
    obtain rfl := hnil rfl
    obtain rfl : m = [] := List.length_eq_zero_iff.1 (by omega)
    refine ⟨.slice (some ⟨g, 0, none⟩) l.length cap, w, ?_, by rw [List.append_nil]; exact .inr ⟨g, cap, cur, fz, rfl, hbg, hg, hf, hn, hc, hcs, ht⟩, Below.refl _ _⟩
    simp [Builtin.append_, run_underlying Tryz.underlying42, sizeOf, typeInfo, hi, hs1, Builtin.lenOf, hn, Builtin.firstCells, storeCells]
  | some ad =>
    have hnews : ∀ j u, (by8 m)[j]? = some u → w.cell? (ad.add j) = some u := by
      intro j u hj
      obtain ⟨b, o, e1, e2⟩ := hrow.at hj
      cases e1
      unfold Addr.add; split
      · rename_i h0; subst h0; simpa using e2
      · exact e2
    by_cases hroom : l.length + m.length ≤ cap
    · have hff := run_firstCells_some (P := Tryz.prog) w 1 m.length ad m.length sc (by8 m) (by rw [by8_length, Nat.mul_one]) hnews
      have hst := run_storeCells_atT Tryz.prog g l.length 5 fz (by8 m) 0 cur w hg hf (by rw [by8_length]; omega) (by8_one m)
      simp only [Nat.add_zero, by8_length] at hst
      refine ⟨.slice (some ⟨g, 0, none⟩) (l ++ m).length cap, w.setRow g (cur.toList.take l.length ++ by8 m ++ cur.toList.drop (l.length + m.length)).toArray, ?_, .inr ⟨g, cap, _, fz, rfl, hbg, setRow_heap w g cur _ _ _ hg, ?_, by simp; omega, hc, ?_, ?_⟩, below_setRow (Below.refl _ _) hbg _⟩
      · simp [Builtin.append_, run_underlying Tryz.underlying42, sizeOf, typeInfo, hi, hs1, Builtin.lenOf, hroom, hff, Addr.add_lit, hst]
      · rcases hf with hf | hf
        · exact .inl hf
        · refine .inr ?_
          simp [by8_length]
          omega
      · simp [by8_length]; omega
      · rw [ht, List.length_append, by8_append]
        show List.take _ ((by8 l ++ by8 m) ++ _) = _
        exact List.take_left' (by simp [by8_length])
    · have holds : ∀ j u, (by8 l)[j]? = some u → w.cell? ((⟨g, 0, none⟩ : Addr).add j) = some u := by
        intro j u hj
        have hadd : (⟨g, 0, none⟩ : Addr).add j = ⟨g, j, none⟩ := by unfold Addr.add; split <;> simp_all
        have hlt := (List.getElem?_eq_some_iff.1 hj).1
        rw [by8_length] at hlt
        rw [hadd, cell_of_row w g j cur _ _ hg]
        rw [← ht, List.getElem?_take_of_lt hlt] at hj
        simpa using hj
      have hr := run_append_grow (P := Tryz.prog) w 42 ty 5 i (.int .u8 0) Tryz.underlying42 hi hz0 ⟨g, 0, none⟩ l.length cap (by8 l) (by rw [hz1, by8_length, Nat.mul_one]) holds ad m.length sc (by8 m) (by rw [hz1, by8_length, Nat.mul_one]) hnews (by omega) (by omega) (by rw [hz2]; exact growslice_fits (by omega) (by omega))
      have hge := grownCap_ge w (l.length + m.length) cap 5
      have hle := grownCap_le_maxLen w (l.length + m.length) cap 5 (by simp [maxLen]; omega)
      refine ⟨_, _, hr, .inr ⟨w.heap.size, _, _, (0, 0), by rw [List.length_append], hb, heap_alloc_new w.drew _, .inl rfl, by rw [List.length_append]; exact hge, by simpa [maxLen] using hle, ?_, ?_⟩, (Below.refl _ _).drew.alloc hb _⟩
      · have hz : (Value.int IntKind.u8 0).cells.size = 1 := rfl
        simp [size_zeroCells, hz, by8_length]
        omega
      · rw [by8_append, List.length_append]
        simp only [Array.toList_append]
        exact List.take_left' (by simp [by8_length])
section
variable {ops : Array Oper} {rest : List Oper} {o : Oper} {a : Act} {Q : Exit → Act → World → Prop} {W : World}
theorem app_tail_bytes (hgd : o.guard = none) (s x : Operand) (ho : o.op = .call { callee := .builtin .append, args := #[s, x], argTypes := #[42, 42] })
    (u : Value) (base : Nat) (l m : List (BitVec 8)) (src : Value) (hs : a.eval s = u) (hown : OwnT W base u l) (h0 : l ≠ []) (hbase : base ≤ W.heap.size) (hx : a.eval x = src) (hy : BytesV W src m) (hl : l.length + m.length ≤ 140737488355328)
    (h : ∀ v' w', OwnT w' base v' (l ++ m) → Below base W w' → wpList Tryz.prog ops Q rest (a.put o.dst v') w') : wpList Tryz.prog ops Q (o :: rest) a W := by
  refine wpList_plain hgd fun K hK => ?_
  obtain ⟨v', w', hr, h2, h3⟩ := run_tail_bytes W o.type base u l m src hy hown h0 hbase hl
  unfold Oper.wp execOp
  simp only [ho, resolve, invoke, builtin, Sem.run_bind, Sem.run_pure, Result.andThen_ok, List.map_toArray, List.map_cons, List.map_nil, hs, hx, hr]
  exact hK _ _ (h v' w' h2 h3)
end
theorem OwnT.low {w : World} {base b2 : Nat} {v : Value} {l : List (BitVec 8)} (h : OwnT w base v l) (hb : b2 ≤ base) : OwnT w b2 v l := by
  rcases h with h | ⟨g, cap, cur, fz, h1, h2, h3⟩
  · exact .inl h
  · exact .inr ⟨g, cap, cur, fz, h1, Nat.le_trans hb h2, h3⟩
set_option maxRecDepth 8000 in
theorem rPad_own (l : List (BitVec 8)) (n : Nat) (w : World) (hp : Wire.plain l = true) (hl : l.length ≤ n) (hn : n ≤ 1048576) :
    Calls Tryz.prog 37 #[.string (strOf l), .int .i64 n] w fun x w' => ∃ u, x = .returned (.tuple #[u, .int .i64 0]) ∧ OwnT w' w.heap.size u (l ++ List.replicate (n - l.length) 32#8) ∧ Below w.heap.size w w' := by
  obtain ⟨v, w1, hrun, hown, hb⟩ := conv_bytes w l (by omega)
  have O := Lib.hid hown; have B := Lib.hid hb; clear hown hb
  obtain ⟨v2, w2, hrun2, hown2, hb2⟩ := conv_bytes w1 l (by omega)
  have O2 := Lib.hid (show OwnT w2 w.heap.size v2 l by
    rcases hown2 with h | ⟨g, cap, cur, fz, h1, h2, h3⟩
    · exact .inl h
    · exact .inr ⟨g, cap, cur, fz, h1, Nat.le_trans B.out.size h2, h3⟩)
  have B2 := Lib.hid (gr_tr B.out hb2); clear hown2 hb2
  have hsz := str_size l
  have HP := Lib.hid hp
  have d1 : decide ((n : Int) < 0) = false := decide_eq_false (by omega)
  have d4 : decide (n < l.length) = false := decide_eq_false (by omega)
  have d5 : decide (1048576 < (n : Int)) = false := decide_eq_false (by omega)
  have HL := Lib.hid hl; have HN := Lib.hid hn
  clear hp hl hn
  go_enter Tryz.func37, Tryz.ntmps37
  go_wp2_with (go_at_call 54; go_loud (refine (rPlain_any _ l true _ O.out.bytes HP.out).mono ?_; rintro r w' ⟨rfl, rfl⟩))
  go_loopw [6] (fun o wr => ∃ k : Nat, l.length + k ≤ n ∧ OwnT wr w.heap.size o (l ++ List.replicate k 32#8) ∧ Below w.heap.size w wr) (fun o _ => n - (match o with | .slice _ m _ => m | _ => 0))
  case atStart => exact ⟨0, by have := HL.out; omega, by simpa using O2.out, B2.out⟩
  case round =>
    obtain ⟨k, hk, hown, hb⟩ := hrel
    have P := Lib.hid hown; have C := Lib.hid hb; clear hown hb
    have hpl : (l ++ List.replicate k 32#8).length = l.length + k := by simp
    obtain ⟨ap, cp, hs⟩ : ∃ a c, _ = Value.slice a (l.length + k) c := by obtain ⟨a, c, h, _⟩ := P.out.bytes; rw [hpl] at h; exact ⟨_, _, h⟩
    subst hs
    have hnb : n ≤ 1048576 := HN.out
    by_cases hlt : l.length + k < n
    · have hlt' : ((l.length : Int) + (k : Int)) < (n : Int) := by omega
      go_wp2_with (at_builtin; go_loud (refine app_tail_one rfl (.tmp 29) (.tmp 30) rfl _ w.heap.size (l ++ List.replicate k 32#8) rfl P.out C.out.size 32#8 rfl (by rw [hpl]; omega) ?_; intro v' w' ho hb; have P2 := Lib.hid ho; have C2 := Lib.hid hb; clear ho hb))
      obtain ⟨a2, c2, hs2⟩ : ∃ a c, v' = Value.slice a (l.length + k + 1) c := by
        obtain ⟨a, c, h, _⟩ := P2.out.bytes
        rw [List.length_append, hpl] at h; exact ⟨_, _, h⟩
      subst hs2
      go_roundw
      case rel => exact ⟨k + 1, by omega, by rw [List.replicate_succ', ← List.append_assoc]; exact P2.out, C.out.trans C2.out⟩
      case measure => show n - (l.length + k + 1) < n - (l.length + k); omega
    · have hnk : n - l.length = k := by omega
      have HK := Lib.hid hnk; clear hnk
      go_wp2
      go_ret2
      exact ⟨_, rfl, by rw [HK.out]; exact P.out, C.out⟩
set_option maxRecDepth 20000 in
theorem rImage_no (s : Bs) (v : Value) (b : Bs) (w : World) (hs : s.length ≤ 9223372036854775807) (hv : BytesV w v b) (h : imgOk s b = false) :
    Calls Tryz.prog 18 #[.string (strOf s), v] w fun e w' => e = .returned (.tuple #[.slice none 0 0, .bool false]) ∧ Below w.heap.size w w' := by
  obtain ⟨a, c, rfl, -⟩ := id hv
  obtain ⟨rb, hrb⟩ : ∃ b, revOk s = b := ⟨_, rfl⟩
  have REV := Lib.hid (fun w => rRevision_at s rb w hs hrb)
  unfold imgOk at h
  rw [hrb] at h
  obtain ⟨st, hst⟩ : ∃ z, strOf s = z := ⟨_, rfl⟩
  rw [hst] at REV ⊢
  obtain ⟨L, hL⟩ : ∃ z, b.length = z := ⟨_, rfl⟩
  rw [hL] at h ⊢
  clear hv hrb hst hL hs
  cases rb
  · clear h
    go_enter Tryz.func18, Tryz.ntmps18
    go_wp2_with (go_at_call 29; go_loud (refine (REV.out _).mono ?_; rintro e w1 ⟨rfl, hb⟩; have D1 := Lib.hid hb; clear hb))
    go_ret2
    exact ⟨rfl, D1.out⟩
  · have g : (1048564 : Int) < (L : Int) := by
      have := of_decide_eq_false (show decide (L ≤ 1048564) = false from h)
      omega
    clear h
    go_enter Tryz.func18, Tryz.ntmps18
    go_wp2_with (go_at_call 29; go_loud (refine (REV.out _).mono ?_; rintro e w1 ⟨rfl, hb⟩; have D1 := Lib.hid hb; clear hb))
    go_ret2
    exact ⟨rfl, D1.out⟩
set_option maxRecDepth 20000 in
theorem rImage_ok (s : Bs) (v : Value) (b : Bs) (w : World) (hs : s.length ≤ 9223372036854775807) (hv : BytesV w v b) (h : imgOk s b = true) :
    Calls Tryz.prog 18 #[.string (strOf s), v] w fun e w' => ∃ u, e = .returned (.tuple #[u, .bool true]) ∧ OwnT w' w.heap.size u (imgB s b) ∧ Below w.heap.size w w' := by
  obtain ⟨a, c, rfl, -⟩ := id hv
  unfold imgOk at h
  rw [Bool.and_eq_true, decide_eq_true_eq] at h
  obtain ⟨hr, hb⟩ := h
  obtain ⟨r1, r2, r3, -⟩ := revOk_is hr
  have REV := Lib.hid (fun w => rRevision_at s true w hs hr)
  have PAD := Lib.hid (fun w => rPad_own s 8 w r3 (by omega) (by omega))
  have HIMG := imgB_parts s b
  have hPL : (s ++ List.replicate (8 - s.length) 32#8).length = 8 := by rw [List.length_append, List.length_replicate]; omega
  obtain ⟨P, hP⟩ : ∃ z, s ++ List.replicate (8 - s.length) 32#8 = z := ⟨_, rfl⟩
  rw [hP] at PAD HIMG hPL
  have V := Lib.hid hv
  obtain ⟨L, hL⟩ : ∃ z, b.length = z := ⟨_, rfl⟩
  rw [hL] at HIMG hb ⊢
  obtain ⟨q1, q2⟩ := put4 L hb
  have PUT := Lib.hid (fun w => rPut_at (BitVec.ofNat 64 (12 + L)) 4 0 (Wire.le (BitVec.ofNat 64 (12 + L)) 4) w q1 q2)
  have hX : (Wire.le (BitVec.ofNat 64 (12 + L)) 4).length = 4 := Wire.le_len _ _
  obtain ⟨N4, hN4⟩ : ∃ z, Wire.le (BitVec.ofNat 64 (12 + L)) 4 = z := ⟨_, rfl⟩
  rw [hN4] at PUT HIMG hX
  have HI := Lib.hid HIMG
  obtain ⟨st, hst⟩ : ∃ z, strOf s = z := ⟨_, rfl⟩
  rw [hst] at REV PAD ⊢
  have hb63 : (L : Int) ≤ 1048564 := by omega
  obtain ⟨X, hXX⟩ : ∃ z, uv (BitVec.ofNat 64 (12 + L)) = z := ⟨_, rfl⟩
  rw [hXX] at PUT
  have hconv : uv (12#64 + BitVec.ofNat 64 L) = X := by rw [← hXX]; congr 1; apply BitVec.eq_of_toNat_eq; simp [BitVec.toNat_add]
  have hPne : P ≠ [] := by intro h; rw [h] at hPL; cases hPL
  have K1 := Lib.hid (show P.length + N4.length ≤ 140737488355328 by rw [hPL, hX]; decide)
  have K2 := Lib.hid (show (P ++ N4).length + b.length ≤ 140737488355328 by rw [List.length_append, hPL, hX, hL]; omega)
  have NE1 := Lib.hid hPne
  have NE2 := Lib.hid (show P ++ N4 ≠ [] by simp [hPne])
  rw [hL] at V
  clear HIMG hv hr hP hPL hN4 hX hst hXX q1 q2 r1 r2 r3 hs hPne
  go_enter Tryz.func18, Tryz.ntmps18
  go_wp2_with (first
    | (go_at_call 29; go_loud (refine (REV.out _).mono ?_; rintro e w1 ⟨rfl, hb1⟩; have D1 := Lib.hid hb1; clear hb1))
    | (go_at_call 37; go_loud (refine (PAD.out w1).mono ?_; rintro e w2 ⟨u1, rfl, ho, hb2⟩; have O1 := Lib.hid (ho.low D1.out.size); have D2 := Lib.hid (gr_tr D1.out hb2); clear ho hb2))
    | (go_at_call 38; go_loud (refine (PUT.out w2).mono ?_; rintro e w3 ⟨u2, rfl, ho, hb3⟩; have O2 := Lib.hid ho; have O1b := Lib.hid (O1.out.below hb3); have D3 := Lib.hid (gr_tr D2.out hb3); clear ho hb3))
    | (at_builtin; go_loud (refine app_tail_bytes rfl _ _ rfl u1 w.heap.size P N4 u2 rfl O1b.out NE1.out D3.out.size rfl O2.out K1.out ?_; intro v3 w4 ho hb4; have O3 := Lib.hid ho; have D4 := Lib.hid (D3.out.trans hb4); clear ho hb4))
    | (at_builtin; go_loud (refine app_tail_bytes rfl _ _ rfl v3 w.heap.size (P ++ N4) b _ rfl O3.out NE2.out D4.out.size rfl (by first | exact V.out.below D4.out | (rw [← hL]; exact V.out.below D4.out)) K2.out ?_; intro v4 w5 ho hb5; have O4 := Lib.hid ho; have D5 := Lib.hid (D4.out.trans hb5); clear ho hb5)))
  go_ret2
  rw [HI.out]
  exact ⟨_, rfl, O4.out, D5.out⟩
end Go.Proofs.YtabfmhlhdebcpaaGreatDoor
