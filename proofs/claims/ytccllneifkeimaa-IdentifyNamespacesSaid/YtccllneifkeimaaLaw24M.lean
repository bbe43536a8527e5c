/- The law IdentifyNamespaces: the walk, behind the opening of its argument. Put together by mergens.py. -/
import Derived.Test.YtccllneifkeimaaRefNsD
import Derived.Test.YtccllneifkeimaaOpenG
import Derived.Test.YtccllneifkeimaaLaw24A
namespace Go.Proofs.Ytccllneifkeimaa
open Go.RowKit Idn Go.ChangeShapes Go.WideShapes Go.ChangeAt
set_option linter.unusedVariables false
set_option linter.unusedSimpArgs false
namespace Idn
structure Blk where
  ms : BitVec 16
  sz : BitVec 8
  pf : BitVec 8
def Blk.cells (x : Blk) : List Value := [.int .u16 (uv x.ms), .int .u8 (uv x.sz), .int .u8 (uv x.pf)]
def Blk.R (w : World) (x : Blk) : Prop := True ∧ True ∧ True
theorem Blk.cells_len : ∀ y, (Blk.cells y).length = 3 := fun _ => rfl
set_option maxRecDepth 100000 in
theorem opens_Blk (w : World) : Opens Try.prog w 56 Blk Blk.cells (Blk.R w) := by
  intro H enc sp held fuel cs x h
  obtain ⟨hl, hfs⟩ := trod_fields Try.underlying56 h
  rw [show Try.prog.cellsOf 56 = 3 by kernel_rfl] at hl
  obtain ⟨y0, a0, r0⟩ := opens_field hfs 0 _ rfl 0 1 rfl (by kernel_rfl) (opens_u16 Try.underlying22)
  obtain ⟨y1, a1, r1⟩ := opens_field hfs 1 _ rfl 1 1 rfl (by kernel_rfl) (opens_u8 Try.underlying5)
  obtain ⟨y2, a2, r2⟩ := opens_field hfs 2 _ rfl 2 1 rfl (by kernel_rfl) (opens_u8 Try.underlying5)
  have e := (glue a0 (by decide : 0 + 1 = 1) (glue a1 (by decide : 1 + 1 = 2) (glue a2 (by decide : 2 + 1 = 3) (glue_end hl))))
  rw [List.drop_zero] at e
  exact ⟨⟨y0, y1, y2⟩, e, ⟨r0, r1, r2⟩⟩
structure NsR where
  f0 : BitVec 64
  f1 : BitVec 64
  f2 : BitVec 64
  f3 : BitVec 8
  f4 : BitVec 8
  f5 : BitVec 8
  f6 : BitVec 8
  f7 : BitVec 8
  f8 : BitVec 8
  f9 : BitVec 8
  f10 : BitVec 8
  f11 : BitVec 16
  f12 : BitVec 16
  f13 : BitVec 16
  f14 : BitVec 32
  f15 : BitVec 64
  guid : List (BitVec 8)
  blocks : List (Blk)
def NsR.cells (x : NsR) : List Value := [.int .u64 (uv x.f0)] ++ ([.int .u64 (uv x.f1)] ++ ([.int .u64 (uv x.f2)] ++ ([.int .u8 (uv x.f3)] ++ ([.int .u8 (uv x.f4)] ++ ([.int .u8 (uv x.f5)] ++ ([.int .u8 (uv x.f6)] ++ ([.int .u8 (uv x.f7)] ++ ([.int .u8 (uv x.f8)] ++ ([.int .u8 (uv x.f9)] ++ ([.int .u8 (uv x.f10)] ++ ([.int .u16 (uv x.f11)] ++ ([.int .u16 (uv x.f12)] ++ ([.int .u16 (uv x.f13)] ++ ([.int .u32 (uv x.f14)] ++ ([.int .u64 (uv x.f15)] ++ ((x.guid.flatMap (fun y : BitVec 8 => [.int .u8 (uv y)])) ++ ((x.blocks.flatMap Blk.cells) ++ ([]))))))))))))))))))
def NsR.R (w : World) (x : NsR) : Prop := True ∧ True ∧ True ∧ True ∧ True ∧ True ∧ True ∧ True ∧ True ∧ True ∧ True ∧ True ∧ True ∧ True ∧ True ∧ True ∧ (x.guid.length = 16 ∧ ∀ y ∈ x.guid, (fun _ : BitVec 8 => True) y) ∧ (x.blocks.length = 16 ∧ ∀ y ∈ x.blocks, (Blk.R w) y)
set_option maxRecDepth 100000 in
theorem opens_NsR (w : World) : Opens Try.prog w 59 NsR NsR.cells (NsR.R w) := by
  intro H enc sp held fuel cs x h
  obtain ⟨hl, hfs⟩ := trod_fields Try.underlying59 h
  rw [show Try.prog.cellsOf 59 = 80 by kernel_rfl] at hl
  obtain ⟨y0, a0, r0⟩ := opens_field hfs 0 _ rfl 0 1 rfl (by kernel_rfl) (opens_u64 Try.underlying54)
  obtain ⟨y1, a1, r1⟩ := opens_field hfs 1 _ rfl 1 1 rfl (by kernel_rfl) (opens_u64 Try.underlying54)
  obtain ⟨y2, a2, r2⟩ := opens_field hfs 2 _ rfl 2 1 rfl (by kernel_rfl) (opens_u64 Try.underlying54)
  obtain ⟨y3, a3, r3⟩ := opens_field hfs 3 _ rfl 3 1 rfl (by kernel_rfl) (opens_u8 Try.underlying5)
  obtain ⟨y4, a4, r4⟩ := opens_field hfs 4 _ rfl 4 1 rfl (by kernel_rfl) (opens_u8 Try.underlying5)
  obtain ⟨y5, a5, r5⟩ := opens_field hfs 5 _ rfl 5 1 rfl (by kernel_rfl) (opens_u8 Try.underlying5)
  obtain ⟨y6, a6, r6⟩ := opens_field hfs 6 _ rfl 6 1 rfl (by kernel_rfl) (opens_u8 Try.underlying5)
  obtain ⟨y7, a7, r7⟩ := opens_field hfs 7 _ rfl 7 1 rfl (by kernel_rfl) (opens_u8 Try.underlying5)
  obtain ⟨y8, a8, r8⟩ := opens_field hfs 8 _ rfl 8 1 rfl (by kernel_rfl) (opens_u8 Try.underlying5)
  obtain ⟨y9, a9, r9⟩ := opens_field hfs 9 _ rfl 9 1 rfl (by kernel_rfl) (opens_u8 Try.underlying5)
  obtain ⟨y10, a10, r10⟩ := opens_field hfs 10 _ rfl 10 1 rfl (by kernel_rfl) (opens_u8 Try.underlying5)
  obtain ⟨y11, a11, r11⟩ := opens_field hfs 11 _ rfl 11 1 rfl (by kernel_rfl) (opens_u16 Try.underlying22)
  obtain ⟨y12, a12, r12⟩ := opens_field hfs 12 _ rfl 12 1 rfl (by kernel_rfl) (opens_u16 Try.underlying22)
  obtain ⟨y13, a13, r13⟩ := opens_field hfs 13 _ rfl 13 1 rfl (by kernel_rfl) (opens_u16 Try.underlying22)
  obtain ⟨y14, a14, r14⟩ := opens_field hfs 14 _ rfl 14 1 rfl (by kernel_rfl) (opens_u32 Try.underlying23)
  obtain ⟨y15, a15, r15⟩ := opens_field hfs 15 _ rfl 15 1 rfl (by kernel_rfl) (opens_u64 Try.underlying54)
  obtain ⟨y16, a16, r16⟩ := opens_field hfs 16 _ rfl 16 16 rfl (by kernel_rfl) ((opens_array (k := 1) Try.underlying42 (by kernel_rfl) (by kernel_rfl) (fun _ => rfl) (opens_u8 Try.underlying5)))
  obtain ⟨y17, a17, r17⟩ := opens_field hfs 17 _ rfl 32 48 rfl (by kernel_rfl) ((opens_array (k := 3) Try.underlying57 (by kernel_rfl) (by kernel_rfl) Blk.cells_len ((opens_Blk w))))
  have e := (glue a0 (by decide : 0 + 1 = 1) (glue a1 (by decide : 1 + 1 = 2) (glue a2 (by decide : 2 + 1 = 3) (glue a3 (by decide : 3 + 1 = 4) (glue a4 (by decide : 4 + 1 = 5) (glue a5 (by decide : 5 + 1 = 6) (glue a6 (by decide : 6 + 1 = 7) (glue a7 (by decide : 7 + 1 = 8) (glue a8 (by decide : 8 + 1 = 9) (glue a9 (by decide : 9 + 1 = 10) (glue a10 (by decide : 10 + 1 = 11) (glue a11 (by decide : 11 + 1 = 12) (glue a12 (by decide : 12 + 1 = 13) (glue a13 (by decide : 13 + 1 = 14) (glue a14 (by decide : 14 + 1 = 15) (glue a15 (by decide : 15 + 1 = 16) (glue a16 (by decide : 16 + 16 = 32) (glue a17 (by decide : 32 + 48 = 80) (glue_end hl)))))))))))))))))))
  rw [List.drop_zero] at e
  exact ⟨⟨y0, y1, y2, y3, y4, y5, y6, y7, y8, y9, y10, y11, y12, y13, y14, y15, y16, y17⟩, e, ⟨r0, r1, r2, r3, r4, r5, r6, r7, r8, r9, r10, r11, r12, r13, r14, r15, r16, r17⟩⟩
/-- Cells that hold numbers of the kinds. -/
def KF : List Kd → List Value → Prop
  | [], [] => True
  | k :: ks, c :: cs => (∃ x : BitVec 64, k.trunc x = x ∧ c = k.val x) ∧ KF ks cs
  | _, _ => False
theorem KF.app : ∀ {a : List Kd} {c : List Value} {b : List Kd} {d : List Value}, KF a c → KF b d → KF (a ++ b) (c ++ d)
  | [], [], _, _, _, h2 => h2
  | _ :: _, _ :: _, _, _, h1, h2 => ⟨h1.1, KF.app h1.2 h2⟩
  | [], _ :: _, _, _, h1, _ => h1.elim
  | _ :: _, [], _, _, h1, _ => h1.elim
theorem KF.nums : ∀ {ks : List Kd} {cs : List Value}, KF ks cs → ∃ vs : List (BitVec 64), vs.length = ks.length ∧ cs = (ks.zip vs).map (fun p => p.1.val p.2) ∧ ∀ p ∈ ks.zip vs, p.1.trunc p.2 = p.2
  | [], [], _ => ⟨[], rfl, rfl, fun p hp => by simp at hp⟩
  | k :: ks, c :: cs, h => by
    obtain ⟨⟨x, h1, h2⟩, h3⟩ := h
    obtain ⟨vs, e1, e2, e3⟩ := KF.nums h3
    refine ⟨x :: vs, by rw [List.length_cons, e1, List.length_cons], by rw [List.zip_cons_cons, List.map_cons, ← e2, h2], fun p hp => ?_⟩
    rw [List.zip_cons_cons] at hp
    rcases List.mem_cons.1 hp with rfl | hp
    · exact h1
    · exact e3 p hp
  | [], _ :: _, h => h.elim
  | _ :: _, [], h => h.elim
theorem kf8 (y : BitVec 8) : ∃ x : BitVec 64, Kd.u8.trunc x = x ∧ Value.int .u8 (uv y) = Kd.u8.val x := ⟨y.setWidth 64, by simp [Kd.trunc], by simp [Kd.val]⟩
theorem kf16 (y : BitVec 16) : ∃ x : BitVec 64, Kd.u16.trunc x = x ∧ Value.int .u16 (uv y) = Kd.u16.val x := ⟨y.setWidth 64, by simp [Kd.trunc], by simp [Kd.val]⟩
theorem kf32 (y : BitVec 32) : ∃ x : BitVec 64, Kd.u32.trunc x = x ∧ Value.int .u32 (uv y) = Kd.u32.val x := ⟨y.setWidth 64, by simp [Kd.trunc], by simp [Kd.val]⟩
theorem kf64 (y : BitVec 64) : ∃ x : BitVec 64, Kd.u64.trunc x = x ∧ Value.int .u64 (uv y) = Kd.u64.val x := ⟨y, rfl, rfl⟩
theorem kf_guid : ∀ xs : List (BitVec 8), KF (List.replicate xs.length .u8) (xs.flatMap fun y => [.int .u8 (uv y)])
  | [] => trivial
  | x :: xs => ⟨kf8 x, kf_guid xs⟩
theorem kf_blk : ∀ xs : List Blk, KF ((List.replicate xs.length ()).flatMap fun _ => [.u16, .u8, .u8]) (xs.flatMap Blk.cells)
  | [] => trivial
  | x :: xs => ⟨kf16 x.ms, kf8 x.sz, kf8 x.pf, kf_blk xs⟩
theorem spec_kinds : nsSpec.map (·.2.1) = [Kd.u64, Kd.u64, Kd.u64, Kd.u8, Kd.u8, Kd.u8, Kd.u8, Kd.u8, Kd.u8, Kd.u8, Kd.u8, Kd.u16, Kd.u16, Kd.u16, Kd.u32, Kd.u64] ++ (List.replicate 16 .u8 ++ (((List.replicate 16 ()).flatMap fun _ => [Kd.u16, .u8, .u8]) ++ [])) := by decide +kernel
theorem ns_flat (w : World) (x : NsR) (h : NsR.R w x) : ∃ vs, NsOk vs ∧ nsC vs = NsR.cells x := by
  obtain ⟨-, -, -, -, -, -, -, -, -, -, -, -, -, -, -, -, ⟨hg, -⟩, ⟨hb, -⟩⟩ := h
  have hk : KF (nsSpec.map (·.2.1)) (NsR.cells x) := by
    rw [spec_kinds]
    have h1 := kf_guid x.guid
    have h2 := kf_blk x.blocks
    rw [hg] at h1; rw [hb] at h2
    exact ⟨kf64 x.f0, kf64 x.f1, kf64 x.f2, kf8 x.f3, kf8 x.f4, kf8 x.f5, kf8 x.f6, kf8 x.f7, kf8 x.f8, kf8 x.f9, kf8 x.f10, kf16 x.f11, kf16 x.f12, kf16 x.f13, kf32 x.f14, kf64 x.f15, (show KF (List.replicate 16 .u8 ++ (((List.replicate 16 ()).flatMap fun _ => [Kd.u16, .u8, .u8]) ++ [])) ((x.guid.flatMap fun y => [.int .u8 (uv y)]) ++ (x.blocks.flatMap Blk.cells ++ [])) from KF.app h1 (KF.app h2 trivial))⟩
  obtain ⟨vs, e1, e2, e3⟩ := hk.nums
  rw [List.zip_map_left] at e2 e3
  refine ⟨vs, ⟨by rw [e1, List.length_map, nsSpec_len], fun p hp => e3 (p.1.2.1, p.2) (List.mem_map.2 ⟨p, hp, rfl⟩)⟩, ?_⟩
  rw [e2, List.map_map]; rfl
theorem opens_Nsl (w : World) : Opens Try.prog w 59 NsL NsL.cells NsOk := by
  intro H enc sp held fuel cs x h
  obtain ⟨r, h1, h2⟩ := opens_NsR w _ _ _ _ _ _ _ h
  obtain ⟨vs, h3, h4⟩ := ns_flat w r h2
  exact ⟨vs, h1.trans h4.symm, h3⟩
end Idn
end Go.Proofs.Ytccllneifkeimaa
namespace Go.Proofs.Ytccllneifkeimaa
open Go.RowKit Idn
set_option linter.unusedVariables false
set_option linter.unusedSimpArgs false
theorem ext_get {xs : Array Value} {a n j : Nat} (hj : j < n) (hs : a + n ≤ xs.size) : (xs.extract a (a + n))[j]? = xs[a + j]? := by
  rw [Array.getElem?_extract, if_pos (by omega)]
set_option maxRecDepth 100000 in
set_option maxHeartbeats 1600000 in
theorem ns_eql (vs : NsL) (hv : NsOk vs) (w : World) : (binOp .eql 59 (.agg (NsL.cells vs).toArray) (.agg (NsL.cells vs).toArray)).run Try.prog w = .ok (.bool true) w := by
  have hc : ∀ (j : Nat) (s : Nat × Kd × Nat), nsSpec[j]? = some s → (NsL.cells vs).toArray[j]? = some (s.2.1.val (gv vs j)) := fun j s h => by rw [List.getElem?_toArray]; exact cell_ns hv.1 h
  have hz : (NsL.cells vs).toArray.size = 80 := ns_sz hv
  obtain ⟨C, hC⟩ : ∃ C, (NsL.cells vs).toArray = C := ⟨_, rfl⟩
  rw [hC] at hc hz ⊢
  clear hC
  refine eql_self (fun w => self_struct (by kernel_rfl) (by kernel_rfl) ?_ w) w
  rw [show Try.prog.fieldsOf 59 = _ from by unfold Program.fieldsOf; rw [Try.underlying59]]
  simp only [List.forall_mem_cons, List.not_mem_nil, false_implies, implies_true, and_true]
  refine ⟨?_, ?_, ?_, ?_, ?_, ?_, ?_, ?_, ?_, ?_, ?_, ?_, ?_, ?_, ?_, ?_, ?_, ?_⟩
  · exact selfAt_int (d := 9998) (k := .u64) Try.underlying54 (hc 0 (0, .u64, 0) rfl)
  · exact selfAt_int (d := 9998) (k := .u64) Try.underlying54 (hc 1 (8, .u64, 1) rfl)
  · exact selfAt_int (d := 9998) (k := .u64) Try.underlying54 (hc 2 (16, .u64, 2) rfl)
  · exact selfAt_int (d := 9998) (k := .u8) Try.underlying5 (hc 3 (24, .u8, 3) rfl)
  · exact selfAt_int (d := 9998) (k := .u8) Try.underlying5 (hc 4 (25, .u8, 4) rfl)
  · exact selfAt_int (d := 9998) (k := .u8) Try.underlying5 (hc 5 (26, .u8, 5) rfl)
  · exact selfAt_int (d := 9998) (k := .u8) Try.underlying5 (hc 6 (27, .u8, 6) rfl)
  · exact selfAt_int (d := 9998) (k := .u8) Try.underlying5 (hc 7 (28, .u8, 7) rfl)
  · exact selfAt_int (d := 9998) (k := .u8) Try.underlying5 (hc 8 (29, .u8, 8) rfl)
  · exact selfAt_int (d := 9998) (k := .u8) Try.underlying5 (hc 9 (30, .u8, 9) rfl)
  · exact selfAt_int (d := 9998) (k := .u8) Try.underlying5 (hc 10 (31, .u8, 10) rfl)
  · exact selfAt_int (d := 9998) (k := .u16) Try.underlying22 (hc 11 (34, .u16, 11) rfl)
  · exact selfAt_int (d := 9998) (k := .u16) Try.underlying22 (hc 12 (36, .u16, 12) rfl)
  · exact selfAt_int (d := 9998) (k := .u16) Try.underlying22 (hc 13 (38, .u16, 13) rfl)
  · exact selfAt_int (d := 9998) (k := .u32) Try.underlying23 (hc 14 (92, .u32, 14) rfl)
  · exact selfAt_int (d := 9998) (k := .u64) Try.underlying54 (hc 15 (120, .u64, 15) rfl)
  · refine selfAt_arr (d := 9998) (e := 5) (n := 16) Try.underlying42 (by kernel_rfl) (show Try.prog.cellsOf 42 = 16 by kernel_rfl) (by kernel_rfl) (show Try.prog.cellsOf 5 = 1 by kernel_rfl) fun i hi => ?_
    refine selfAt_int (d := 9997) (k := .u8) (a := uv ((gv vs (16 + i)).setWidth 8)) Try.underlying5 ?_
    rw [Nat.mul_one]
    exact (ext_get hi (by rw [hz]; decide)).trans (hc _ _ (guid_at i hi))
  · refine selfAt_arr (d := 9998) (e := 56) (n := 16) Try.underlying57 (by kernel_rfl) (show Try.prog.cellsOf 57 = 48 by kernel_rfl) (by kernel_rfl) (show Try.prog.cellsOf 56 = 3 by kernel_rfl) fun i hi => ?_
    obtain ⟨h1, h2, h3⟩ := spec_blk i hi
    have hsz : (C.extract 32 (32 + 48)).size = 48 := by rw [Array.size_extract]; omega
    have hx : ∀ j, j < 3 → ((C.extract 32 (32 + 48)).extract (i * 3) (i * 3 + 3))[j]? = C[32 + 3 * i + j]? := fun j hj => by
      rw [ext_get hj (by omega), ext_get (by omega) (by omega), show 32 + (i * 3 + j) = 32 + 3 * i + j by omega]
    refine selfAt_struct (d := 9997) (m := 3) (by kernel_rfl) (by kernel_rfl) (by kernel_rfl) (by kernel_rfl) ?_
    rw [show Try.prog.fieldsOf 56 = _ from by unfold Program.fieldsOf; rw [Try.underlying56]]
    simp only [List.forall_mem_cons, List.not_mem_nil, false_implies, implies_true, and_true]
    refine ⟨?_, ?_, ?_⟩
    · exact selfAt_int (d := 9996) (k := .u16) Try.underlying22 ((hx 0 (by decide)).trans (hc _ _ h1))
    · exact selfAt_int (d := 9996) (k := .u8) Try.underlying5 ((hx 1 (by decide)).trans (hc _ _ h2))
    · exact selfAt_int (d := 9996) (k := .u8) Try.underlying5 ((hx 2 (by decide)).trans (hc _ _ h3))
theorem nsR_len (vs : List (BitVec 64)) : (nsR vs).length ≤ 4096 := by
  unfold nsR
  split
  · rw [nsB_len]; exact Nat.le_refl _
  · simp
theorem decNs_ok {l : List (BitVec 8)} {y : NsL} {e : Int} (h : decV rdNs okNs nsB nsZ l = (y, e)) : NsOk y := by
  unfold decV at h
  split at h
  · cases h; exact nsZ_ok
  · split at h
    · cases h; exact nsZ_ok
    · split at h
      · cases h; exact rdNs_ok (by omega)
      · cases h; exact nsZ_ok
set_option maxHeartbeats 6400000 in
set_option maxRecDepth 100000 in
theorem lawNamespaces (x : NsL) (at' more : Int) (by' : BitVec 8) (w : World) (hx : NsOk x) (ha : -9223372036854775808 ≤ at' ∧ at' ≤ 9223372036854775807) (hm : -9223372036854775808 ≤ more ∧ more ≤ 9223372036854775807) :
    Calls Try.prog 7 #[.agg (NsL.cells x).toArray, .agg #[.int .i64 at', .int .u8 (uv by'), .int .i64 more]] w fun e w' => e = .returned (.bool true) ∧ Below w.heap.size w w' := by
  obtain ⟨W, hW⟩ : ∃ W, W = (w.alloc (.cells (NsL.cells x).toArray 59)).alloc (.cells #[.int .i64 at', .int .u8 (uv by'), .int .i64 more] 46) := ⟨_, rfl⟩
  have D := Lib.hid (show Below w.heap.size w W by rw [hW]; exact gr_tr (gr_alloc w _) (gr_alloc _ _))
  have XA := Lib.hid (show W.heap[w.heap.size]? = some (.cells (NsL.cells x).toArray 59 (0, 0)) by rw [hW]; exact blk_below (heap_alloc_new w _) (gr_alloc _ _))
  have XS := Lib.hid (show W.heap[w.heap.size + 1]? = some (.cells #[.int .i64 at', .int .u8 (uv by'), .int .i64 more] 46 (0, 0)) by rw [hW]; have := heap_alloc_new (w.alloc (.cells (NsL.cells x).toArray 59)) (.cells #[.int .i64 at', .int .u8 (uv by'), .int .i64 more] 46); rwa [World.size_alloc] at this)
  have HW := Lib.hid hW
  obtain ⟨E, hE⟩ : ∃ E, nsE x = E := ⟨_, rfl⟩
  obtain ⟨B, hB⟩ : ∃ B, nsR x = B := ⟨_, rfl⟩
  have HE := Lib.hid hE; have HB := Lib.hid hB
  have HBL := Lib.hid (show B.length ≤ 4096 by rw [← hB]; exact nsR_len x)
  have HA := Lib.hid ha; have HM := Lib.hid hm; have HX := Lib.hid hx
  have SX := Lib.hid (ns_sz hx)
  have hEE : (E != E) = false := by simp
  clear hW hE hB ha hm hx
  go_enter Try.func7, Try.ntmps7
  go_upto_region 1 with (fail)
  rw [← HW.out]
  go_upto_region 6 with (first
    | (refine wpList_load_row rfl 59 (.tmp 2) rfl w.heap.size rfl 59 (NsL.cells x).toArray (0, 0) _ XA.out Try.underlying59 rfl (by rw [SX.out]; kernel_rfl) ?_)
    | (refine wpList_load_row rfl 46 (.tmp 3) rfl (w.heap.size + 1) rfl 46 _ (0, 0) _ XS.out Try.underlying46 rfl (by kernel_rfl) ?_)
    | (go_at_call 22; go_loud (refine (EncNs_at x E B _ HX.out HE.out HB.out).mono ?_; rintro r w1 ⟨u, rfl, hu, hw⟩; replace XA := Lib.hid (blk_below XA.out hw); replace XS := Lib.hid (blk_below XS.out hw); have A := Lib.hid hu; replace D := Lib.hid (gr_tr D.out hw); clear hw hu))
    | (go_at_call 23; go_loud (refine (rEncNs_at x E B _ HX.out HE.out HB.out).mono ?_; rintro r w2 ⟨v, rfl, hv, hw⟩; replace XS := Lib.hid (blk_below XS.out hw); replace A := Lib.hid (A.out.below hw); have A2 := Lib.hid hv; replace D := Lib.hid (gr_tr D.out hw); clear hw hv))
    | (go_at_call 14; go_loud (refine (Same_any _ _ _ _ _ A.out A2.out).mono ?_; rintro r w4 ⟨rfl, hw4⟩; subst hw4; rw [show (B == B) = true from beq_self_eq_true _]))
    | (go_at_call 19; go_loud (refine (spoil_any _ B at' more by' _ A2.out (by have := HBL.out; omega) HA.out HM.out).mono ?_; rintro r w5 ⟨bv, l, rfl, hv, hl, hw⟩; have BV := Lib.hid hv; have HL := Lib.hid (show l.length ≤ 140737488355328 by have := HBL.out; omega); replace D := Lib.hid (gr_tr D.out hw); clear hw hv hl)))
  obtain ⟨y, e, hye⟩ : ∃ y e, decV rdNs okNs nsB nsZ l = (y, e) := ⟨_, _, rfl⟩
  have HYE := Lib.hid hye
  have hyo := decNs_ok hye
  have heq := ns_eql y hyo
  have SY := Lib.hid (ns_sz hyo)
  have hee : (e == e) = true := beq_self_eq_true e
  clear hye hyo
  go_upto_region 7 with (first
    | (go_at_call 24; go_loud (refine (Decode_NsL l _ _ y e SY.out BV.out HL.out HYE.out).mono ?_; rintro r w6 ⟨rfl, hw⟩; replace BV := Lib.hid (BV.out.below hw); replace D := Lib.hid (gr_tr D.out hw); clear hw))
    | (refine wpList_store_new rfl 59 (.tmp 10) (.tmp 39) rfl (NsL.cells y).toArray 59 _ rfl rfl (by rw [SY.out]; kernel_rfl) (by rw [SY.out]; kernel_rfl) (NsL.cells_one _) ?_; intro w7 hh hb; have Y7 := Lib.hid hh; replace BV := Lib.hid (BV.out.below hb); replace D := Lib.hid (gr_tr D.out hb); clear hh hb))
  go_upto_region 8 with (first
    | (go_at_call 25; go_loud (refine (rDecode_Ns l _ _ y e BV.out HL.out HYE.out).mono ?_; rintro r w8 ⟨rfl, hw⟩; have Y8 := Lib.hid (blk_below Y7.out hw); replace D := Lib.hid (gr_tr D.out hw); clear hw))
    | (refine wpList_store_new rfl 59 (.tmp 12) (.tmp 44) rfl (NsL.cells y).toArray 59 _ rfl rfl (by rw [SY.out]; kernel_rfl) (by rw [SY.out]; kernel_rfl) (NsL.cells_one _) ?_; intro w9 hh hb; have Z9 := Lib.hid hh; have Y9 := Lib.hid (blk_below Y8.out hb); replace D := Lib.hid (gr_tr D.out hb); clear hh hb))
  go_wp2_with (first
    | (refine wpList_load_row rfl 59 (.tmp 10) rfl w6.heap.size rfl 59 (NsL.cells y).toArray (0, 0) _ Y9.out Try.underlying59 rfl (by rw [SY.out]; kernel_rfl) ?_)
    | (refine wpList_load_row rfl 59 (.tmp 12) rfl w8.heap.size rfl 59 (NsL.cells y).toArray (0, 0) _ Z9.out Try.underlying59 rfl (by rw [SY.out]; kernel_rfl) ?_)
    | (go_at_call 11; go_loud (refine (known_any _).mono ?_; rintro r wk ⟨rfl, hw⟩; replace D := Lib.hid (gr_tr D.out hw); clear hw)))
  go_ret
  exact ⟨rfl, D.out⟩
end Go.Proofs.Ytccllneifkeimaa
