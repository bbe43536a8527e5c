/- Descriptions of pages: the walk of spare.Decode at 64 bytes. -/
import Derived.Test.YteicmbapipnbjaaSpareL
import Derived.Test.YteicmbapipnbjaaGuarded
import Derived.Test.YteicmbapipnbjaaPlan2
namespace Go.Proofs.Yteicmbapipnbjaa
open Go.RowKit
set_option linter.unusedVariables false
set_option linter.unusedSimpArgs false
theorem Zeros_at {d : Nat} (p : Nat) (v : Value) (l : List (BitVec 8)) (n j : Nat) (K : Int) (w : World) (hp : RdAt w 88 p d v l n) (hK : K = j) (hj : j ≤ l.length) (h3 : (l.take j).any nonzero = false) :
    Calls Try.prog 32 #[.pointer (some ⟨p, 0, none⟩), .int .i64 K] w fun e w' => e = .returned (.int .i64 0) ∧ (∃ v', RdAt w' 88 p d v' (l.drop j) (n + j)) ∧ Chg (fun b => b = p) w w' := by
  subst hK; exact Zeros_ok p v l n j w hp hj h3
theorem setRow_self {w : World} {g : Nat} {cs : Array Value} {t : TypeId} {fr : Nat × Nat} (hg : w.heap[g]? = some (.cells cs t fr)) : w.setRow g cs = w := by
  cases w
  simp only [World.setRow]
  congr 1
  apply Array.ext_getElem?
  intro i
  rw [Array.getElem?_modify]
  split
  · rename_i e
    subst e
    rw [hg]
    rfl
  · rfl
namespace Sp
/-- What Decode answers behind the checksum, the magic and the first zeros; nz: a byte of the last zeros is none. -/
def decV (nz vb : Bool) (k : BitVec 8) (s : Int) (q p : BitVec 64) (i n : Int) : Value := if !nz && vb then .tuple #[.agg #[.int .u8 (uv k), .int .i64 s, .int .u64 (uv q), .int .u64 (uv p), .int .i64 i, .int .i64 n], .int .i64 0] else .tuple #[.agg #[.int .u8 0, .int .i64 0, .int .u64 0, .int .u64 0, .int .i64 0, .int .i64 0], .int .i64 6]
end Sp
set_option maxRecDepth 100000 in
set_option maxHeartbeats 1600000 in
theorem Decode5_rest (v u : Value) (nz vb : Bool) (b d : List (BitVec 8)) (y xm x1 xq xp xs xi xn : BitVec 64) (w : World) (hv : BytesV w v b) (hu : BytesV w u d) (h : b.length = 64) (hs : d.length ≤ 1000000) (hx : Wire.get (b.drop 60) = y) (hy : Sp.sumOf d b = y) (hxm : Wire.get (b.take 4) = xm) (h32 : uv xm < 4294967296) (hmb : (uv xm == 1280591427) = true) (hx1 : Wire.get ((b.drop 4).take 1) = x1) (h132 : uv x1 < 4294967296) (hz : (((b.drop 4).drop 1).take 3).any nonzero = false) (hq : Wire.get ((b.drop 8).take 8) = xq) (hpv : Wire.get ((b.drop 16).take 8) = xp) (hxs : Wire.get ((b.drop 24).take 4) = xs) (hxs32 : uv xs < 4294967296) (hxi : Wire.get ((b.drop 28).take 4) = xi) (hxi32 : uv xi < 4294967296) (hxn : Wire.get ((b.drop 32).take 4) = xn) (hxn32 : uv xn < 4294967296) (hnz : ((b.drop 36).take 24).any nonzero = nz) (hvb : Sp.valid (x1.setWidth 8) (uv xs) xq xp (uv xi) (uv xn) = vb) :
    Calls Try.prog 15 #[v, u] w fun e w' => e = .returned (Sp.decV nz vb (x1.setWidth 8) (uv xs) xq xp (uv xi) (uv xn)) ∧ Below w.heap.size w w' := by
  have hmf : ∀ (fn : Fn) (first cap : Array Value) (w : World), (Instr.makeFunc fn first cap).run Try.prog w = .ok (.func fn first cap) w := fun _ _ _ _ => rfl
  obtain ⟨u60, hu60, hrun⟩ := hv.cutl (P := Try.prog) (T := 26) Try.underlying26 bsz 60 (by omega)
  have hrun : ∀ w', (Instr.slice 26 v (some (.int .i64 60)) none none).run Try.prog w' = .ok u60 w' := hrun
  have hE : Wire.getE (b.drop 60) = 0 := by unfold Wire.getE; simp [h]
  have hV : Wire.getV (b.drop 60) = y := by unfold Wire.getV; rw [if_pos hE]; exact hx
  have hsum : (Dig.crc32 (d ++ b.take 60)).setWidth 64 = y := hy
  have hb0 : Below w.heap.size w ((w.alloc (.cells #[.int .u8 0, .int .i64 0, .int .u64 0, .int .u64 0, .int .i64 0, .int .i64 0] 25 (0, 0))).alloc (.cells #[.int .i64 0] 28)) := gr_tr (gr_alloc _ _) (gr_alloc _ _)
  have s0 : ((w.alloc (.cells #[.int .u8 0, .int .i64 0, .int .u64 0, .int .u64 0, .int .i64 0, .int .i64 0] 25 (0, 0))).alloc (.cells #[.int .i64 0] 28)).heap[w.heap.size]? = some (.cells #[.int .u8 0, .int .i64 0, .int .u64 0, .int .u64 0, .int .i64 0, .int .i64 0] 25 (0, 0)) := (heap_alloc_old _ _ (by simp)).trans (heap_alloc_new w _)
  have e0 : ((w.alloc (.cells #[.int .u8 0, .int .i64 0, .int .u64 0, .int .u64 0, .int .i64 0, .int .i64 0] 25 (0, 0))).alloc (.cells #[.int .i64 0] 28)).heap[w.heap.size + 1]? = some (.cells #[.int .i64 0] 28 (0, 0)) := by
    have := heap_alloc_new (w.alloc (.cells #[.int .u8 0, .int .i64 0, .int .u64 0, .int .u64 0, .int .i64 0, .int .i64 0] 25 (0, 0))) (.cells #[.int .i64 0] 28)
    simpa using this
  obtain ⟨a, cp, rfl, _⟩ := id hv
  have h' : ((b.length : Int) == 64) = true := beq_iff_eq.2 (by omega)
  have V := Lib.hid hv; have U := Lib.hid hu; have H := Lib.hid h; have HS := Lib.hid hs; have HE := Lib.hid hE; have HV := Lib.hid hV; have HSUM := Lib.hid hsum; have U60 := Lib.hid hu60; have B0 := Lib.hid hb0; have S0 := Lib.hid s0; have E0 := Lib.hid e0
  have XM := Lib.hid hxm; have X32 := Lib.hid h32
  have L4 := Lib.hid (show (b.drop 4).length = 60 by rw [List.length_drop, h])
  have X1 := Lib.hid hx1; have X132 := Lib.hid h132; have L5 := Lib.hid (show ((b.drop 4).drop 1).length = 59 by rw [List.length_drop, List.length_drop, h])
  have HZ := Lib.hid hz
  have XQ := Lib.hid hq; have XP := Lib.hid hpv
  have L8 := Lib.hid (show (b.drop 8).length = 56 by rw [List.length_drop, h]); have L16 := Lib.hid (show (b.drop 16).length = 48 by rw [List.length_drop, h]); have L24 := Lib.hid (show (b.drop 24).length = 40 by rw [List.length_drop, h])
  have XS := Lib.hid hxs; have XS32 := Lib.hid hxs32
  have XI := Lib.hid hxi; have XI32 := Lib.hid hxi32; have XN := Lib.hid hxn; have XN32 := Lib.hid hxn32
  have L28 := Lib.hid (show (b.drop 28).length = 36 by rw [List.length_drop, h]); have L32 := Lib.hid (show (b.drop 32).length = 32 by rw [List.length_drop, h])
  have HNZ := Lib.hid hnz; have HVB := Lib.hid hvb; have L36 := Lib.hid (show (b.drop 36).length = 28 by rw [List.length_drop, h])
  clear hnz hvb
  clear hq hpv hxs hxs32 hxi hxi32 hxn hxn32
  clear hxm h32 hx1 h132 hz
  clear hv hu h hs hE hV hsum hx hy hu60 hb0 s0 e0
  go_enter_defers Try.func15, Try.ntmps15
  go_wp2_with (first
    | (go_at_call 26; with_reducible refine (must_true 2 _).mono ?_; rintro r w2 ⟨rfl, rfl⟩)
    | (go_at_call 27; refine (NewReader_any _ b _ (V.out.below B0.out) (by rw [H.out]; omega)).mono ?_; rintro r w1 ⟨p, vr, rfl, hp, hrd, hb⟩; have S1 := Lib.hid ((hb.block _ (blk_lt S0.out)).trans S0.out); have E1 := Lib.hid ((hb.block _ (blk_lt E0.out)).trans E0.out); have B1 := Lib.hid (gr_tr B0.out hb); have D1 := Lib.hid (DecAt.start S1.out E1.out hrd (by simpa using hp) B1.out); clear hrd hb hp)
    | (go_at_call 31; refine (Get_at _ (b.drop 60) y 0 _ (U60.out.below D1.out.base) HV.out HE.out).mono ?_; rintro r w2 ⟨rfl, hw2⟩; have D2 := Lib.hid (show DecAt w w2 w1.heap.size p _ b 0 by rw [← hw2]; exact D1.out); clear hw2)
    | (go_at_call 23; refine (check_at _ _ d b y _ (U.out.below D2.out.base) (V.out.below D2.out.base) (by have := H.out; omega) HS.out HSUM.out).mono ?_; rintro r w3 ⟨rfl, hb3⟩; have D3 := Lib.hid (D2.out.below hb3); clear hb3)
    | (go_at_call 26; with_reducible refine (must_true 10 _).mono ?_; rintro r w4 ⟨rfl, rfl⟩)
    | (go_at_call 28; obtain ⟨v3, hv3⟩ := D3.out.rd; with_reducible refine (read_ok w1.heap.size p _ v3 b 0 4 4 xm _ D3.out.r hv3 rfl (by omega) (by omega) (by have := H.out; omega) XM.out X32.out).mono ?_; rintro r w5 ⟨rfl, hr, hc⟩; have D5 := Lib.hid (D3.out.chg hc hr); clear hr hc hv3)
    | (go_at_call 26; with_reducible refine (must_true 6 _).mono ?_; rintro r w6 ⟨rfl, rfl⟩)
    | (go_at_call 28; go_loud (obtain ⟨v5, hv5⟩ := D5.out.rd; with_reducible refine (read_ok w1.heap.size p _ v5 (b.drop 4) (0 + 4) 1 1 x1 _ D5.out.r hv5 rfl (by omega) (by omega) (by have := L4.out; omega) X1.out X132.out).mono ?_; rintro r w7 ⟨rfl, hr, hc⟩; have D7 := Lib.hid (D5.out.chg hc hr); have c0 := D7.out.cells.1; have z0 := D7.out.cold 0; have rc := D7.out.rcell; have hne : ¬ w1.heap.size = w.heap.size := (by have := D7.out.lor; omega); have D8 := Lib.hid (show DecAt w (w7.setCell ⟨w.heap.size, 0, none⟩ (.int .u8 (uv (x1.setWidth 8)))) w1.heap.size p #[.int .u8 (uv (x1.setWidth 8)), .int .i64 0, .int .u64 0, .int .u64 0, .int .i64 0, .int .i64 0] _ _ from D7.out.set (by simp) (by have := L5.out; omega) 0 _); clear hr hc hv5))
    | (go_at_call 32; go_loud (obtain ⟨v8, hv8⟩ := D8.out.rd; with_reducible refine (Zeros_at p v8 _ _ 3 3 _ hv8 rfl (by have := L5.out; omega) HZ.out).mono ?_; rintro r w9 ⟨rfl, hr, hc⟩; have D9 := Lib.hid (show DecAt w w9 w1.heap.size p _ (b.drop 8) 8 from by have := D8.out.chg hc hr; simpa [List.drop_drop] using this); have rc9 := D9.out.rcell; clear hr hc hv8)))
  refine wp_loop_rounds 3 ?_
  rw [rounds_succ]
  have D10 := Lib.hid (D9.out.below (gr_alloc w9 (.cells #[.pointer (some ⟨w.heap.size, 2, none⟩), .pointer (some ⟨w.heap.size, 3, none⟩)] 64)))
  have rc10 := D10.out.rcell
  go_wp2_with (first
    | (go_at_call 33; go_loud (obtain ⟨v10, hv10⟩ := D10.out.rd; refine (At_any _ p v10 _ 8 _ hv10).mono ?_; rintro r w11 ⟨rfl, hw11⟩; have D11 := Lib.hid (show DecAt w w11 w1.heap.size p _ (b.drop 8) 8 by rw [← hw11]; exact D10.out); have q11 : w11.cell? ⟨w9.heap.size, 1, none⟩ = some (.pointer (some ⟨w.heap.size, 3, none⟩)) := (by rw [← hw11]; simp [go_sem]); clear hw11 hv10))
    | (go_at_call 26; with_reducible refine (must_true 6 _).mono ?_; rintro r w12 ⟨rfl, rfl⟩)
    | (go_at_call 30; go_loud (obtain ⟨v11, hv11⟩ := D11.out.rd; with_reducible refine (long_ok w1.heap.size p _ v11 (b.drop 8) 8 xq _ D11.out.r hv11 (by have := L8.out; omega) XQ.out).mono ?_; rintro r w13 ⟨rfl, hr, hc⟩; have D13 := Lib.hid (D11.out.chg hc hr); have c2 := D13.out.cells.2.2.1; have z2 := D13.out.cold 2; have rc13 := D13.out.rcell; have q13 : w13.cell? ⟨w9.heap.size, 1, none⟩ = some (.pointer (some ⟨w.heap.size, 3, none⟩)) := hc.cell q11 (fun e => absurd (show w9.heap.size = p from e) (by obtain ⟨vv, hvv⟩ := D9.out.rd; have := hvv.lt; omega)); have hne9 : ¬ w9.heap.size = w.heap.size := (by have := blk_lt D9.out.s; omega); have D14 := Lib.hid (show DecAt w (w13.setCell ⟨w.heap.size, 2, none⟩ (.int .u64 (uv xq))) w1.heap.size p #[.int .u8 (uv (x1.setWidth 8)), .int .i64 0, .int .u64 (uv xq), .int .u64 0, .int .i64 0, .int .i64 0] (b.drop 16) 16 from by have := D13.out.set (by simp) (by have := H.out; simp only [List.length_drop]; omega) 2 (.int .u64 (uv xq)); simpa [List.drop_drop] using this); clear hr hc hv11 q11)))
  rw [rounds_succ]
  go_wp2_with (first
    | (go_at_call 33; go_loud (obtain ⟨v14, hv14⟩ := D14.out.rd; refine (At_any _ p v14 _ 16 _ hv14).mono ?_; rintro r w15 ⟨rfl, hw15⟩; have D15 := Lib.hid (show DecAt w w15 w1.heap.size p _ (b.drop 16) 16 by rw [← hw15]; exact D14.out); clear hw15 hv14))
    | (go_at_call 26; with_reducible refine (must_true 6 _).mono ?_; rintro r w12 ⟨rfl, rfl⟩)
    | (go_at_call 30; go_loud (obtain ⟨v15, hv15⟩ := D15.out.rd; with_reducible refine (long_ok w1.heap.size p _ v15 (b.drop 16) 16 xp _ D15.out.r hv15 (by have := L16.out; omega) XP.out).mono ?_; rintro r w17 ⟨rfl, hr, hc⟩; have D17 := Lib.hid (D15.out.chg hc hr); have c3 := D17.out.cells.2.2.2.1; have z3 := D17.out.cold 3; have rc17 := D17.out.rcell; have D18 := Lib.hid (show DecAt w (w17.setCell ⟨w.heap.size, 3, none⟩ (.int .u64 (uv xp))) w1.heap.size p #[.int .u8 (uv (x1.setWidth 8)), .int .i64 0, .int .u64 (uv xq), .int .u64 (uv xp), .int .i64 0, .int .i64 0] (b.drop 24) 24 from by have := D17.out.set (by simp) (by have := H.out; simp only [List.length_drop]; omega) 3 (.int .u64 (uv xp)); simpa [List.drop_drop] using this); clear hr hc hv15)))
  rw [rounds_succ]
  go_wp2_with fail
  refine wp_loop_rounds 4 ?_
  rw [rounds_succ]
  have hnp : ¬ w17.heap.size = p := by obtain ⟨vv, hvv⟩ := D18.out.rd; have := hvv.lt; simp at this; omega
  have hns : ¬ w17.heap.size = w.heap.size := by have := blk_lt D17.out.s; omega
  have HNP := Lib.hid hnp; clear hnp
  go_wp2_with (go_at_call 28; go_loud (have D19 := Lib.hid (D18.out.below (gr_alloc _ (.cells #[.pointer (some ⟨w.heap.size, 1, none⟩), .pointer (some ⟨w.heap.size, 4, none⟩), .pointer (some ⟨w.heap.size, 5, none⟩)] 67))); obtain ⟨v19, hv19⟩ := D19.out.rd; with_reducible refine (read_ok w1.heap.size p _ v19 (b.drop 24) 24 4 4 xs _ D19.out.r hv19 rfl (by omega) (by omega) (by have := L24.out; omega) XS.out XS32.out).mono ?_; rintro r w20 ⟨rfl, hr, hc⟩; have D20 := Lib.hid (D19.out.chg hc hr); have c1 := D20.out.cells.2.1; have z1 := D20.out.cold 1; have q20_1 : w20.cell? ⟨w17.heap.size, 1, none⟩ = some (.pointer (some ⟨w.heap.size, 4, none⟩)) := hc.cell (by simp [go_sem]) HNP.out; have q20_2 : w20.cell? ⟨w17.heap.size, 2, none⟩ = some (.pointer (some ⟨w.heap.size, 5, none⟩)) := hc.cell (by simp [go_sem]) HNP.out; have D21 := Lib.hid (show DecAt w (w20.setCell ⟨w.heap.size, 1, none⟩ (.int .i64 (uv xs))) w1.heap.size p #[.int .u8 (uv (x1.setWidth 8)), .int .i64 (uv xs), .int .u64 (uv xq), .int .u64 (uv xp), .int .i64 0, .int .i64 0] (b.drop 28) 28 from by have := D20.out.set (by simp) (by have := H.out; simp only [List.length_drop]; omega) 1 (.int .i64 (uv xs)); simpa [List.drop_drop] using this); clear hr hc hv19))
  try rw [rounds_succ]
  go_wp2_with (go_at_call 28; go_loud (obtain ⟨v21, hv21⟩ := D21.out.rd; with_reducible refine (read_ok w1.heap.size p _ v21 (b.drop 28) 28 4 4 xi _ D21.out.r hv21 rfl (by omega) (by omega) (by have := L28.out; omega) XI.out XI32.out).mono ?_; rintro r w22 ⟨rfl, hr, hc⟩; have D22 := Lib.hid (D21.out.chg hc hr); have c4 := D22.out.cells.2.2.2.2.1; have z4 := D22.out.cold 4; have q22_2 : w22.cell? ⟨w17.heap.size, 2, none⟩ = some (.pointer (some ⟨w.heap.size, 5, none⟩)) := hc.cell (by simp [go_sem, hns, q20_2]) HNP.out; have D23 := Lib.hid (show DecAt w (w22.setCell ⟨w.heap.size, 4, none⟩ (.int .i64 (uv xi))) w1.heap.size p #[.int .u8 (uv (x1.setWidth 8)), .int .i64 (uv xs), .int .u64 (uv xq), .int .u64 (uv xp), .int .i64 (uv xi), .int .i64 0] (b.drop 32) 32 from by have := D22.out.set (by simp) (by have := H.out; simp only [List.length_drop]; omega) 4 (.int .i64 (uv xi)); simpa [List.drop_drop] using this); clear hr hc hv21))
  try rw [rounds_succ]
  go_wp2_with (go_at_call 28; go_loud (obtain ⟨v23, hv23⟩ := D23.out.rd; with_reducible refine (read_ok w1.heap.size p _ v23 (b.drop 32) 32 4 4 xn _ D23.out.r hv23 rfl (by omega) (by omega) (by have := L32.out; omega) XN.out XN32.out).mono ?_; rintro r w24 ⟨rfl, hr, hc⟩; have D24 := Lib.hid (D23.out.chg hc hr); have c5 := D24.out.cells.2.2.2.2.2; have z5 := D24.out.cold 5; have D25 := Lib.hid (show DecAt w (w24.setCell ⟨w.heap.size, 5, none⟩ (.int .i64 (uv xn))) w1.heap.size p #[.int .u8 (uv (x1.setWidth 8)), .int .i64 (uv xs), .int .u64 (uv xq), .int .u64 (uv xp), .int .i64 (uv xi), .int .i64 (uv xn)] (b.drop 36) 36 from by have := D24.out.set (by simp) (by have := H.out; simp only [List.length_drop]; omega) 5 (.int .i64 (uv xn)); simpa [List.drop_drop] using this); clear hr hc hv23))
  try rw [rounds_succ]
  have rc25 := D25.out.rcell
  go_upto_region 23 with fail
  cases nz
  · cases vb
    · go_wp2_with (first
        | (go_at_call 33; go_loud (obtain ⟨v25, hv25⟩ := D25.out.rd; refine (At_any _ p v25 _ 36 _ hv25).mono ?_; rintro r w26 ⟨rfl, hw26⟩; have D26 := Lib.hid (show DecAt w w26 w1.heap.size p _ (b.drop 36) 36 by rw [← hw26]; exact D25.out); clear hw26 hv25))
        | (go_at_call 32; go_loud (obtain ⟨v26, hv26⟩ := D26.out.rd; with_reducible refine (Zeros_at p v26 _ _ 24 24 _ hv26 rfl (by have := L36.out; omega) HNZ.out).mono ?_; rintro r w27 ⟨rfl, hr, hc⟩; have D27 := Lib.hid (D26.out.chg hc hr); clear hr hc hv26))
        | (refine wpList_unguard (by rfl) (wpList_load_row rfl 25 (.tmp 4) rfl w.heap.size rfl 25 _ (0, 0) _ D27.out.s Try.underlying25 rfl (by kernel_rfl) ?_))
        | (go_at_call 13; go_loud (refine (Valid_any (x1.setWidth 8) (uv xs) xq xp (uv xi) (uv xn) _ _ HVB.out).mono ?_; rintro r w28 ⟨rfl, hb28⟩; have D28 := Lib.hid (D27.out.below hb28); clear hb28))
        | (go_at_call 26; with_reducible refine (must_false 6 _).mono ?_; rintro r w29 ⟨rfl, rfl⟩))
      exact door_bad 6 w _ w.heap.size (w.heap.size + 1) _ _ _ _ _ _ _ _ rfl rfl D28.out.s D28.out.e (by omega) D28.out.base (Nat.le_refl _) (by omega)
    · go_upto_region 24 with (first
        | (go_at_call 33; go_loud (obtain ⟨v25, hv25⟩ := D25.out.rd; refine (At_any _ p v25 _ 36 _ hv25).mono ?_; rintro r w26 ⟨rfl, hw26⟩; have D26 := Lib.hid (show DecAt w w26 w1.heap.size p _ (b.drop 36) 36 by rw [← hw26]; exact D25.out); clear hw26 hv25))
        | (go_at_call 32; go_loud (obtain ⟨v26, hv26⟩ := D26.out.rd; with_reducible refine (Zeros_at p v26 _ _ 24 24 _ hv26 rfl (by have := L36.out; omega) HNZ.out).mono ?_; rintro r w27 ⟨rfl, hr, hc⟩; have D27 := Lib.hid (D26.out.chg hc hr); clear hr hc hv26))
        | (refine wpList_unguard (by rfl) (wpList_load_row rfl 25 (.tmp 4) rfl w.heap.size rfl 25 _ (0, 0) _ D27.out.s Try.underlying25 rfl (by kernel_rfl) ?_))
        | (go_at_call 13; go_loud (refine (Valid_any (x1.setWidth 8) (uv xs) xq xp (uv xi) (uv xn) _ _ HVB.out).mono ?_; rintro r w28 ⟨rfl, hb28⟩; have D28 := Lib.hid (D27.out.below hb28); clear hb28))
        | (go_at_call 26; with_reducible refine (must_true 6 _).mono ?_; rintro r w29 ⟨rfl, rfl⟩))
      have ec := D28.out.ecell
      go_wp2_with (first
        | (refine wpList_load_row rfl 25 (.tmp 4) rfl w.heap.size rfl 25 _ (0, 0) _ D28.out.s Try.underlying25 rfl (by kernel_rfl) ?_)
        | (refine wpList_store_row rfl 25 (.tmp 4) (.tmp 101) rfl w.heap.size _ rfl rfl 25 _ D28.out.s (by kernel_rfl) rfl (by simp [Value.oneCell']) ?_; rw [setRow_self D28.out.s]))
      refine door_good 0 w _ w.heap.size (w.heap.size + 1) _ _ _ _ _ _ _ _ rfl rfl ((heap_setCell_other _ _ _ _ (by simp)).trans D28.out.s) (heap_setCell_same _ _ _ _ _ _ D28.out.e) ?_
      exact Chg.new (Chg.setCell (B := fun k => k = w.heap.size + 1) _ rfl _) D28.out.base (fun k hk => by omega)
  · have HZ6 := Lib.hid (show Wire.zerosE (b.drop 36) 24 = 6 by unfold Wire.zerosE; rw [if_neg (by omega), if_neg (by have := L36.out; omega)]; simp only [show (24 : Int).toNat = 24 from rfl, HNZ.out, if_true])
    go_wp2_with (first
      | (go_at_call 33; go_loud (obtain ⟨v25, hv25⟩ := D25.out.rd; refine (At_any _ p v25 _ 36 _ hv25).mono ?_; rintro r w26 ⟨rfl, hw26⟩; have D26 := Lib.hid (show DecAt w w26 w1.heap.size p _ (b.drop 36) 36 by rw [← hw26]; exact D25.out); clear hw26 hv25))
      | (go_at_call 32; go_loud (obtain ⟨v26, hv26⟩ := D26.out.rd; with_reducible refine (Zeros_no p v26 _ _ 24 6 _ hv26 HZ6.out (by omega)).mono ?_; rintro r w27 ⟨rfl, hb27⟩; have D27 := Lib.hid (D26.out.below hb27); clear hb27 hv26))
      | (go_at_call 26; with_reducible refine (must_false 6 _).mono ?_; rintro r w29 ⟨rfl, rfl⟩))
    exact door_bad 6 w _ w.heap.size (w.heap.size + 1) _ _ _ _ _ _ _ _ rfl rfl D27.out.s D27.out.e (by omega) D27.out.base (Nat.le_refl _) (by omega)
end Go.Proofs.Yteicmbapipnbjaa
