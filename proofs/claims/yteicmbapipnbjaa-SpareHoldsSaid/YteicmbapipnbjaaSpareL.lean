/- Descriptions of pages: the walk of spare.Decode at 64 bytes. -/
import Derived.Test.YteicmbapipnbjaaSpareK
namespace Go.Proofs.Yteicmbapipnbjaa
open Go.RowKit
set_option linter.unusedVariables false
set_option linter.unusedSimpArgs false
set_option maxHeartbeats 1600000 in
theorem Decode5_zero (v u : Value) (b d : List (BitVec 8)) (y xm x1 : BitVec 64) (w : World) (hv : BytesV w v b) (hu : BytesV w u d) (h : b.length = 64) (hs : d.length ≤ 1000000) (hx : Wire.get (b.drop 60) = y) (hy : Sp.sumOf d b = y) (hxm : Wire.get (b.take 4) = xm) (h32 : uv xm < 4294967296) (hmb : (uv xm == 1280591427) = true) (hx1 : Wire.get ((b.drop 4).take 1) = x1) (h132 : uv x1 < 4294967296) (hz : (((b.drop 4).drop 1).take 3).any nonzero = true) :
    Calls Try.prog 15 #[v, u] w fun e w' => e = .returned (.tuple #[.agg #[.int .u8 0, .int .i64 0, .int .u64 0, .int .u64 0, .int .i64 0, .int .i64 0], .int .i64 6]) ∧ Below w.heap.size w w' := by
  have hmf : ∀ (fn : Fn) (first cap : Array Value) (w : World), (Instr.makeFunc fn first cap).run Try.prog w = .ok (.func fn first cap) w := fun _ _ _ _ => rfl
  obtain ⟨u60, hu60, hrun⟩ := hv.cutl (P := Try.prog) (T := 26) Try.underlying26 bsz 60 (by omega)
  have hrun : ∀ w', (Instr.slice 26 v (some (.int .i64 60)) none none).run Try.prog w' = .ok u60 w' := hrun
  have hE : Wire.getE (b.drop 60) = 0 := by unfold Wire.getE; simp [h]
  have hV : Wire.getV (b.drop 60) = y := by unfold Wire.getV; rw [if_pos hE]; exact hx
  have hsum : (Dig.crc32 (d ++ b.take 60)).setWidth 64 = y := hy
  have hb0 : Below w.heap.size w ((w.alloc (.cells #[.int .u8 0, .int .i64 0, .int .u64 0, .int .u64 0, .int .i64 0, .int .i64 0] 25 (0, 0))).alloc (.cells #[.int .i64 0] 28)) := gr_tr (gr_alloc _ _) (gr_alloc _ _)
  have s0 : ((w.alloc (.cells #[.int .u8 0, .int .i64 0, .int .u64 0, .int .u64 0, .int .i64 0, .int .i64 0] 25 (0, 0))).alloc (.cells #[.int .i64 0] 28)).heap[w.heap.size]? = some (.cells #[.int .u8 0, .int .i64 0, .int .u64 0, .int .u64 0, .int .i64 0, .int .i64 0] 25 (0, 0)) := (heap_alloc_old _ _ (by simp)).trans (heap_alloc_new w _)
  have e0 : ((w.alloc (.cells #[.int .u8 0, .int .i64 0, .int .u64 0, .int .u64 0, .int .i64 0, .int .i64 0] 25 (0, 0))).alloc (.cells #[.int .i64 0] 28)).heap[w.heap.size + 1]? = some (.cells #[.int .i64 0] 28 (0, 0)) := by
    have := heap_alloc_new (w.alloc (.cells #[.int .u8 0, .int .i64 0, .int .u64 0, .int .u64 0, .int .i64 0, .int .i64 0] 25 (0, 0))) (.cells #[.int .i64 0] 28)
    simpa using this
  obtain ⟨a, cp, rfl, _⟩ := id hv
  have h' : ((b.length : Int) == 64) = true := beq_iff_eq.2 (by omega)
  have V := Lib.hid hv; have U := Lib.hid hu; have H := Lib.hid h; have HS := Lib.hid hs; have HE := Lib.hid hE; have HV := Lib.hid hV; have HSUM := Lib.hid hsum; have U60 := Lib.hid hu60; have B0 := Lib.hid hb0; have S0 := Lib.hid s0; have E0 := Lib.hid e0
  have XM := Lib.hid hxm; have X32 := Lib.hid h32
  have L4 := Lib.hid (show (b.drop 4).length = 60 by rw [List.length_drop, h])
  have X1 := Lib.hid hx1; have X132 := Lib.hid h132; have L5 := Lib.hid (show ((b.drop 4).drop 1).length = 59 by rw [List.length_drop, List.length_drop, h])
  have HZ := Lib.hid (show Wire.zerosE ((b.drop 4).drop 1) 3 = 6 by unfold Wire.zerosE; rw [if_neg (by omega), if_neg (by have := L5.out; omega)]; simp only [show (3 : Int).toNat = 3 from rfl, hz, if_true])
  clear hxm h32 hx1 h132 hz
  clear hv hu h hs hE hV hsum hx hy hu60 hb0 s0 e0
  go_enter_defers Try.func15, Try.ntmps15
  go_wp2_with (first
    | (go_at_call 26; with_reducible refine (must_true 2 _).mono ?_; rintro r w2 ⟨rfl, rfl⟩)
    | (go_at_call 27; refine (NewReader_any _ b _ (V.out.below B0.out) (by rw [H.out]; omega)).mono ?_; rintro r w1 ⟨p, vr, rfl, hp, hrd, hb⟩; have S1 := Lib.hid ((hb.block _ (blk_lt S0.out)).trans S0.out); have E1 := Lib.hid ((hb.block _ (blk_lt E0.out)).trans E0.out); have B1 := Lib.hid (gr_tr B0.out hb); have D1 := Lib.hid (DecAt.start S1.out E1.out hrd (by simpa using hp) B1.out); clear hrd hb hp)
    | (go_at_call 31; refine (Get_at _ (b.drop 60) y 0 _ (U60.out.below D1.out.base) HV.out HE.out).mono ?_; rintro r w2 ⟨rfl, hw2⟩; have D2 := Lib.hid (show DecAt w w2 w1.heap.size p _ b 0 by rw [← hw2]; exact D1.out); clear hw2)
    | (go_at_call 23; refine (check_at _ _ d b y _ (U.out.below D2.out.base) (V.out.below D2.out.base) (by have := H.out; omega) HS.out HSUM.out).mono ?_; rintro r w3 ⟨rfl, hb3⟩; have D3 := Lib.hid (D2.out.below hb3); clear hb3)
    | (go_at_call 26; with_reducible refine (must_true 10 _).mono ?_; rintro r w4 ⟨rfl, rfl⟩)
    | (go_at_call 28; obtain ⟨v3, hv3⟩ := D3.out.rd; with_reducible refine (read_ok w1.heap.size p _ v3 b 0 4 4 xm _ D3.out.r hv3 rfl (by omega) (by omega) (by have := H.out; omega) XM.out X32.out).mono ?_; rintro r w5 ⟨rfl, hr, hc⟩; have D5 := Lib.hid (D3.out.chg hc hr); clear hr hc hv3)
    | (go_at_call 26; with_reducible refine (must_true 6 _).mono ?_; rintro r w6 ⟨rfl, rfl⟩)
    | (go_at_call 28; go_loud (obtain ⟨v5, hv5⟩ := D5.out.rd; with_reducible refine (read_ok w1.heap.size p _ v5 (b.drop 4) (0 + 4) 1 1 x1 _ D5.out.r hv5 rfl (by omega) (by omega) (by have := L4.out; omega) X1.out X132.out).mono ?_; rintro r w7 ⟨rfl, hr, hc⟩; have D7 := Lib.hid (D5.out.chg hc hr); have c0 := D7.out.cells.1; have z0 := D7.out.cold 0; have rc := D7.out.rcell; have hne : ¬ w1.heap.size = w.heap.size := (by have := D7.out.lor; omega); have D8 := Lib.hid (show DecAt w (w7.setCell ⟨w.heap.size, 0, none⟩ (.int .u8 (uv (x1.setWidth 8)))) w1.heap.size p #[.int .u8 (uv (x1.setWidth 8)), .int .i64 0, .int .u64 0, .int .u64 0, .int .i64 0, .int .i64 0] _ _ from D7.out.set (by simp) (by have := L5.out; omega) 0 _); clear hr hc hv5))
    | (go_at_call 32; go_loud (obtain ⟨v8, hv8⟩ := D8.out.rd; with_reducible refine (Zeros_no p v8 _ _ 3 6 _ hv8 HZ.out (by decide)).mono ?_; rintro r w9 ⟨rfl, hb9⟩; have D9 := Lib.hid (D8.out.below hb9); clear hv8 hb9))
    | (go_at_call 26; with_reducible refine (must_false 6 _).mono ?_; rintro r w8 ⟨rfl, rfl⟩))
  exact door_bad 6 w _ w.heap.size (w.heap.size + 1) _ _ _ _ _ _ _ _ rfl rfl D9.out.s D9.out.e (by omega) D9.out.base (Nat.le_refl _) (by omega)
end Go.Proofs.Yteicmbapipnbjaa
