/- Descriptions of pages: the walk of spare.Decode at 64 bytes. -/
import Derived.Test.YteicmbapipnbjaaSpareJ
namespace Go.Proofs.Yteicmbapipnbjaa
open Go.RowKit
set_option linter.unusedVariables false
set_option linter.unusedSimpArgs false
theorem DecAt.start {w w1 : World} {p : Nat} {vr : Value} {cs : Array Value} {b : List (BitVec 8)} (s : w1.heap[w.heap.size]? = some (.cells cs 25 (0, 0))) (e : w1.heap[w.heap.size + 1]? = some (.cells #[.int .i64 0] 28 (0, 0))) (hr : RdAt w1 88 p p vr b 0) (hp : w.heap.size + 2 ≤ p) (hb : Below w.heap.size w w1) :
    DecAt w (w1.alloc (.cells #[.pointer (some ⟨p, 0, none⟩)] 56)) w1.heap.size p cs b 0 := by
  have h1 := blk_lt e
  have h2 := hr.lt
  exact ⟨(heap_alloc_old _ _ (blk_lt s)).trans s, (heap_alloc_old _ _ (blk_lt e)).trans e, heap_alloc_new _ _, ⟨vr, hr.below (gr_alloc _ _)⟩, by omega, hp, by omega, gr_tr hb (gr_alloc _ _)⟩
set_option maxHeartbeats 1600000 in
theorem Decode5_sum (v u : Value) (b d : List (BitVec 8)) (x y : BitVec 64) (w : World) (hv : BytesV w v b) (hu : BytesV w u d) (h : b.length = 64) (hs : d.length ≤ 1000000) (hx : Wire.get (b.drop 60) = x) (hy : Sp.sumOf d b = y) (hxy : (x == y) = false) :
    Calls Try.prog 15 #[v, u] w fun e w' => e = .returned (.tuple #[.agg #[.int .u8 0, .int .i64 0, .int .u64 0, .int .u64 0, .int .i64 0, .int .i64 0], .int .i64 10]) ∧ Below w.heap.size w w' := by
  have hmf : ∀ (fn : Fn) (first cap : Array Value) (w : World), (Instr.makeFunc fn first cap).run Try.prog w = .ok (.func fn first cap) w := fun _ _ _ _ => rfl
  obtain ⟨u60, hu60, hrun⟩ := hv.cutl (P := Try.prog) (T := 26) Try.underlying26 bsz 60 (by omega)
  have hrun : ∀ w', (Instr.slice 26 v (some (.int .i64 60)) none none).run Try.prog w' = .ok u60 w' := hrun
  have hE : Wire.getE (b.drop 60) = 0 := by unfold Wire.getE; simp [h]
  have hV : Wire.getV (b.drop 60) = x := by unfold Wire.getV; rw [if_pos hE]; exact hx
  have hsum : (Dig.crc32 (d ++ b.take 60)).setWidth 64 = y := hy
  have hb0 : Below w.heap.size w ((w.alloc (.cells #[.int .u8 0, .int .i64 0, .int .u64 0, .int .u64 0, .int .i64 0, .int .i64 0] 25 (0, 0))).alloc (.cells #[.int .i64 0] 28)) := gr_tr (gr_alloc _ _) (gr_alloc _ _)
  have s0 : ((w.alloc (.cells #[.int .u8 0, .int .i64 0, .int .u64 0, .int .u64 0, .int .i64 0, .int .i64 0] 25 (0, 0))).alloc (.cells #[.int .i64 0] 28)).heap[w.heap.size]? = some (.cells #[.int .u8 0, .int .i64 0, .int .u64 0, .int .u64 0, .int .i64 0, .int .i64 0] 25 (0, 0)) := (heap_alloc_old _ _ (by simp)).trans (heap_alloc_new w _)
  have e0 : ((w.alloc (.cells #[.int .u8 0, .int .i64 0, .int .u64 0, .int .u64 0, .int .i64 0, .int .i64 0] 25 (0, 0))).alloc (.cells #[.int .i64 0] 28)).heap[w.heap.size + 1]? = some (.cells #[.int .i64 0] 28 (0, 0)) := by
    have := heap_alloc_new (w.alloc (.cells #[.int .u8 0, .int .i64 0, .int .u64 0, .int .u64 0, .int .i64 0, .int .i64 0] 25 (0, 0))) (.cells #[.int .i64 0] 28)
    simpa using this
  obtain ⟨a, cp, rfl, _⟩ := id hv
  have h' : ((b.length : Int) == 64) = true := beq_iff_eq.2 (by omega)
  have V := Lib.hid hv; have U := Lib.hid hu; have H := Lib.hid h; have HS := Lib.hid hs; have HE := Lib.hid hE; have HV := Lib.hid hV; have HSUM := Lib.hid hsum; have U60 := Lib.hid hu60; have B0 := Lib.hid hb0; have S0 := Lib.hid s0; have E0 := Lib.hid e0
  clear hv hu h hs hE hV hsum hx hy hu60 hb0 s0 e0
  go_enter_defers Try.func15, Try.ntmps15
  go_wp2_with (first
    | (go_at_call 26; with_reducible refine (must_true 2 _).mono ?_; rintro r w2 ⟨rfl, rfl⟩)
    | (go_at_call 27; refine (NewReader_any _ b _ (V.out.below B0.out) (by rw [H.out]; omega)).mono ?_; rintro r w1 ⟨p, vr, rfl, hp, hrd, hb⟩; have S1 := Lib.hid ((hb.block _ (blk_lt S0.out)).trans S0.out); have E1 := Lib.hid ((hb.block _ (blk_lt E0.out)).trans E0.out); have B1 := Lib.hid (gr_tr B0.out hb); have D1 := Lib.hid (DecAt.start S1.out E1.out hrd (by simpa using hp) B1.out); clear hrd hb hp)
    | (go_at_call 31; refine (Get_at _ (b.drop 60) x 0 _ (U60.out.below D1.out.base) HV.out HE.out).mono ?_; rintro r w2 ⟨rfl, hw2⟩; have D2 := Lib.hid (show DecAt w w2 w1.heap.size p _ b 0 by rw [← hw2]; exact D1.out); clear hw2)
    | (go_at_call 23; refine (check_at _ _ d b y _ (U.out.below D2.out.base) (V.out.below D2.out.base) (by have := H.out; omega) HS.out HSUM.out).mono ?_; rintro r w3 ⟨rfl, hb3⟩; have D3 := Lib.hid (D2.out.below hb3); clear hb3)
    | (go_at_call 26; with_reducible refine (must_false 10 _).mono ?_; rintro r w4 ⟨rfl, rfl⟩))
  exact door_bad 10 w _ w.heap.size (w.heap.size + 1) _ _ _ _ _ _ _ _ rfl rfl D3.out.s D3.out.e (by omega) D3.out.base (Nat.le_refl _) (by omega)
set_option maxHeartbeats 1600000 in
theorem Decode5_magic (v u : Value) (b d : List (BitVec 8)) (y xm : BitVec 64) (w : World) (hv : BytesV w v b) (hu : BytesV w u d) (h : b.length = 64) (hs : d.length ≤ 1000000) (hx : Wire.get (b.drop 60) = y) (hy : Sp.sumOf d b = y) (hxm : Wire.get (b.take 4) = xm) (h32 : uv xm < 4294967296) (hmb : (uv xm == 1280591427) = false) :
    Calls Try.prog 15 #[v, u] w fun e w' => e = .returned (.tuple #[.agg #[.int .u8 0, .int .i64 0, .int .u64 0, .int .u64 0, .int .i64 0, .int .i64 0], .int .i64 6]) ∧ Below w.heap.size w w' := by
  have hmf : ∀ (fn : Fn) (first cap : Array Value) (w : World), (Instr.makeFunc fn first cap).run Try.prog w = .ok (.func fn first cap) w := fun _ _ _ _ => rfl
  obtain ⟨u60, hu60, hrun⟩ := hv.cutl (P := Try.prog) (T := 26) Try.underlying26 bsz 60 (by omega)
  have hrun : ∀ w', (Instr.slice 26 v (some (.int .i64 60)) none none).run Try.prog w' = .ok u60 w' := hrun
  have hE : Wire.getE (b.drop 60) = 0 := by unfold Wire.getE; simp [h]
  have hV : Wire.getV (b.drop 60) = y := by unfold Wire.getV; rw [if_pos hE]; exact hx
  have hsum : (Dig.crc32 (d ++ b.take 60)).setWidth 64 = y := hy
  have hb0 : Below w.heap.size w ((w.alloc (.cells #[.int .u8 0, .int .i64 0, .int .u64 0, .int .u64 0, .int .i64 0, .int .i64 0] 25 (0, 0))).alloc (.cells #[.int .i64 0] 28)) := gr_tr (gr_alloc _ _) (gr_alloc _ _)
  have s0 : ((w.alloc (.cells #[.int .u8 0, .int .i64 0, .int .u64 0, .int .u64 0, .int .i64 0, .int .i64 0] 25 (0, 0))).alloc (.cells #[.int .i64 0] 28)).heap[w.heap.size]? = some (.cells #[.int .u8 0, .int .i64 0, .int .u64 0, .int .u64 0, .int .i64 0, .int .i64 0] 25 (0, 0)) := (heap_alloc_old _ _ (by simp)).trans (heap_alloc_new w _)
  have e0 : ((w.alloc (.cells #[.int .u8 0, .int .i64 0, .int .u64 0, .int .u64 0, .int .i64 0, .int .i64 0] 25 (0, 0))).alloc (.cells #[.int .i64 0] 28)).heap[w.heap.size + 1]? = some (.cells #[.int .i64 0] 28 (0, 0)) := by
    have := heap_alloc_new (w.alloc (.cells #[.int .u8 0, .int .i64 0, .int .u64 0, .int .u64 0, .int .i64 0, .int .i64 0] 25 (0, 0))) (.cells #[.int .i64 0] 28)
    simpa using this
  obtain ⟨a, cp, rfl, _⟩ := id hv
  have h' : ((b.length : Int) == 64) = true := beq_iff_eq.2 (by omega)
  have V := Lib.hid hv; have U := Lib.hid hu; have H := Lib.hid h; have HS := Lib.hid hs; have HE := Lib.hid hE; have HV := Lib.hid hV; have HSUM := Lib.hid hsum; have U60 := Lib.hid hu60; have B0 := Lib.hid hb0; have S0 := Lib.hid s0; have E0 := Lib.hid e0
  have XM := Lib.hid hxm; have X32 := Lib.hid h32
  clear hxm h32
  clear hv hu h hs hE hV hsum hx hy hu60 hb0 s0 e0
  go_enter_defers Try.func15, Try.ntmps15
  go_wp2_with (first
    | (go_at_call 26; with_reducible refine (must_true 2 _).mono ?_; rintro r w2 ⟨rfl, rfl⟩)
    | (go_at_call 27; refine (NewReader_any _ b _ (V.out.below B0.out) (by rw [H.out]; omega)).mono ?_; rintro r w1 ⟨p, vr, rfl, hp, hrd, hb⟩; have S1 := Lib.hid ((hb.block _ (blk_lt S0.out)).trans S0.out); have E1 := Lib.hid ((hb.block _ (blk_lt E0.out)).trans E0.out); have B1 := Lib.hid (gr_tr B0.out hb); have D1 := Lib.hid (DecAt.start S1.out E1.out hrd (by simpa using hp) B1.out); clear hrd hb hp)
    | (go_at_call 31; refine (Get_at _ (b.drop 60) y 0 _ (U60.out.below D1.out.base) HV.out HE.out).mono ?_; rintro r w2 ⟨rfl, hw2⟩; have D2 := Lib.hid (show DecAt w w2 w1.heap.size p _ b 0 by rw [← hw2]; exact D1.out); clear hw2)
    | (go_at_call 23; refine (check_at _ _ d b y _ (U.out.below D2.out.base) (V.out.below D2.out.base) (by have := H.out; omega) HS.out HSUM.out).mono ?_; rintro r w3 ⟨rfl, hb3⟩; have D3 := Lib.hid (D2.out.below hb3); clear hb3)
    | (go_at_call 26; with_reducible refine (must_true 10 _).mono ?_; rintro r w4 ⟨rfl, rfl⟩)
    | (go_at_call 28; obtain ⟨v3, hv3⟩ := D3.out.rd; refine (read_ok w1.heap.size p _ v3 b 0 4 4 xm _ D3.out.r hv3 rfl (by omega) (by omega) (by have := H.out; omega) XM.out X32.out).mono ?_; rintro r w5 ⟨rfl, hr, hc⟩; have D5 := Lib.hid (D3.out.chg hc hr); clear hr hc hv3)
    | (go_at_call 26; with_reducible refine (must_false 6 _).mono ?_; rintro r w6 ⟨rfl, rfl⟩))
  exact door_bad 6 w _ w.heap.size (w.heap.size + 1) _ _ _ _ _ _ _ _ rfl rfl D5.out.s D5.out.e (by omega) D5.out.base (Nat.le_refl _) (by omega)
end Go.Proofs.Yteicmbapipnbjaa
