/- Zones: cells, places, bytes; zoned, EncodeZoned. Printed by genzn.py. -/
import Derived.Test.YthnnopjakpjoeaaDoorIdE
import Derived.Test.YthnnopjakpjoeaaDoorIdLoad
namespace Go.Proofs.YthnnopjakpjoeaaDoor
open Go.RowKit Idn Go.ChangeShapes Go.WideShapes Go.ChangeAt
set_option linter.unusedVariables false
set_option linter.unusedSimpArgs false
structure Zn where
  vary : Bool
  across : Bool
  active : BitVec 32
  openz : BitVec 32
  size : BitVec 64
  ext : BitVec 8
def Zn.cells (x : Zn) : List Value := [.bool x.vary, .bool x.across, .int .u32 (uv x.active), .int .u32 (uv x.openz), .int .u64 (uv x.size), .int .u8 (uv x.ext)]
def Zn.R (w : World) (x : Zn) : Prop := True ∧ True ∧ True ∧ True ∧ True ∧ True
theorem Zn.cells_len : ∀ y, (Zn.cells y).length = 6 := fun _ => rfl
set_option maxRecDepth 100000 in
theorem opens_Zn (w : World) : Opens Tryd.prog w 73 Zn Zn.cells (Zn.R w) := by
  intro H enc sp held fuel cs x h
  obtain ⟨hl, hfs⟩ := trod_fields Tryd.underlying73 h
  rw [show Tryd.prog.cellsOf 73 = 6 by kernel_rfl] at hl
  obtain ⟨y0, a0, r0⟩ := opens_field hfs 0 _ rfl 0 1 rfl (by kernel_rfl) (opens_bool Tryd.underlying4)
  obtain ⟨y1, a1, r1⟩ := opens_field hfs 1 _ rfl 1 1 rfl (by kernel_rfl) (opens_bool Tryd.underlying4)
  obtain ⟨y2, a2, r2⟩ := opens_field hfs 2 _ rfl 2 1 rfl (by kernel_rfl) (opens_u32 Tryd.underlying24)
  obtain ⟨y3, a3, r3⟩ := opens_field hfs 3 _ rfl 3 1 rfl (by kernel_rfl) (opens_u32 Tryd.underlying24)
  obtain ⟨y4, a4, r4⟩ := opens_field hfs 4 _ rfl 4 1 rfl (by kernel_rfl) (opens_u64 Tryd.underlying23)
  obtain ⟨y5, a5, r5⟩ := opens_field hfs 5 _ rfl 5 1 rfl (by kernel_rfl) (opens_u8 Tryd.underlying5)
  have e := (glue a0 (by decide : 0 + 1 = 1) (glue a1 (by decide : 1 + 1 = 2) (glue a2 (by decide : 2 + 1 = 3) (glue a3 (by decide : 3 + 1 = 4) (glue a4 (by decide : 4 + 1 = 5) (glue a5 (by decide : 5 + 1 = 6) (glue_end hl)))))))
  rw [List.drop_zero] at e
  exact ⟨⟨y0, y1, y2, y3, y4, y5⟩, e, ⟨r0, r1, r2, r3, r4, r5⟩⟩
namespace Idn
def bb (b : Bool) : BitVec 64 := if b then 1#64 else 0#64
theorem bb_eq (b : Bool) : (bb b == 1#64) = b := by cases b <;> rfl
theorem fitsF {cs : List Value} {a o : Nat} {b : Bool} (hc : cs[o]? = some (.bool b)) (ha : a + 2 ≤ 4096) : Fits cs ((a, .flag, o), bb b) :=
  ⟨by show cs[o]? = some (.bool (bb b == 1#64)); rw [bb_eq]; exact hc, by show (if (bb b == 1#64) = true then 1#64 else 0#64) = bb b; rw [bb_eq]; rfl, ha⟩
def znSpec : Spec := [(0, .flag, 0), (2, .flag, 1), (4, .u32, 2), (8, .u32, 3), (2816, .u64, 4), (2824, .u8, 5)]
def znV (x : Zn) : List (BitVec 64) := [bb x.vary, bb x.across, x.active.setWidth 64, x.openz.setWidth 64, x.size.setWidth 64, x.ext.setWidth 64]
theorem zn_fits (x : Zn) : ∀ p ∈ znSpec.zip (znV x), Fits (Zn.cells x) p := by
  have h : znSpec.zip (znV x) = [((0, .flag, 0), bb x.vary), ((2, .flag, 1), bb x.across), ((4, .u32, 2), x.active.setWidth 64), ((8, .u32, 3), x.openz.setWidth 64), ((2816, .u64, 4), x.size.setWidth 64), ((2824, .u8, 5), x.ext.setWidth 64)] := rfl
  rw [h]
  simp only [List.forall_mem_cons]
  refine ⟨fitsF rfl (by decide), fitsF rfl (by decide), fits32 rfl (by decide), fits32 rfl (by decide), fits64 rfl (by decide), fits8 rfl (by decide), by simp⟩
def znFs (x : Zn) : List (Nat × List (BitVec 8)) := fsOf znSpec (znV x)
theorem znFs_eq (x : Zn) : znFs x = [(0, Wire.le (bb x.vary) 2), (2, Wire.le (bb x.across) 2), (4, Wire.le (x.active.setWidth 64) 4), (8, Wire.le (x.openz.setWidth 64) 4), (2816, Wire.le (x.size.setWidth 64) 8), (2824, Wire.le (x.ext.setWidth 64) 1)] := rfl
theorem znFs_in (x : Zn) : ∀ q ∈ znFs x, q.1 + q.2.length ≤ zeros.length := by
  rw [znFs_eq]
  simp only [List.forall_mem_cons, Wire.le_len, zeros_len]
  refine ⟨by decide, by decide, by decide, by decide, by decide, by decide, by simp⟩
/-- The structure of zones. -/
def znB (x : Zn) : List (BitVec 8) := Lay.lays zeros (znFs x)
theorem znB_len (x : Zn) : (znB x).length = 4096 := by unfold znB; rw [Lay.lays_len (znFs_in x), zeros_len]
end Idn
theorem offZn : offOk Tryd.prog 73 [0, 1, 2, 3, 4, 5] = true := by kernel_rfl
set_option maxHeartbeats 6400000 in
set_option maxRecDepth 100000 in
theorem zoned_any (X : Nat) (w : World) :
    Calls Tryd.prog 92 #[.pointer (some ⟨X, 0, none⟩)] w fun e w' => ∃ pv ps, e = .returned pv ∧ SliceV w' Pl.cells pv ps ∧ ps.map key = znSpec ∧ PsOk w' w.heap.size X ps ∧ NewS w.heap.size pv ∧ Below w.heap.size w w' := by
  go_enter Tryd.func92, Tryd.ntmps92
  go_wp2
  refine wp_region_planWF nowhere (([0, 1, 2, 4, 5, 6, 8, 9, 10, 12, 13, 14, 16, 17, 18, 20, 21, 22] : List Nat).map (fun i => (true, i)) ++ [(false, 3), (false, 7), (false, 11), (false, 15), (false, 19), (false, 23), (false, 24), (true, 25)]) (by kernel_rfl) (by kernel_rfl) (by kernel_rfl) (by kernel_rfl) (by intro c a d v w h; cases d <;> exact h) ?_
  intro W1 K D
  have PS := Lib.hid (PsOk.nil W1 w.heap.size X)
  refine wpS_run 73 [0, 1, 2, 3, 4, 5] offZn [0, 1, 2, 4, 5, 6, 8, 9, 10, 12, 13, 14, 16, 17, 18, 20, 21, 22] _ ⟨#[.pointer (some ⟨X, 0, none⟩), undef, .slice none 0 0, .pointer (some ⟨X, 0, none⟩), .pointer (some ⟨X, 0, none⟩), .pointer (some ⟨X, 0, none⟩), undef, .pointer (some ⟨X, 0, none⟩), .pointer (some ⟨X, 0, none⟩), .pointer (some ⟨X, 1, none⟩), undef, .pointer (some ⟨X, 0, none⟩), .pointer (some ⟨X, 0, none⟩), .pointer (some ⟨X, 2, none⟩), undef, .pointer (some ⟨X, 0, none⟩), .pointer (some ⟨X, 0, none⟩), .pointer (some ⟨X, 3, none⟩), undef, .pointer (some ⟨X, 0, none⟩), .pointer (some ⟨X, 0, none⟩), .pointer (some ⟨X, 4, none⟩), undef, .pointer (some ⟨X, 0, none⟩), .pointer (some ⟨X, 0, none⟩), .pointer (some ⟨X, 5, none⟩), undef, undef], []⟩ (by kernel_rfl) ?_
  refine wpS_chain rfl ?_
  go_wp2_with (go_at_call 143; go_loud (refine (at_flag X 0 0 _).mono ?_; rintro r W2 ⟨b0, rfl, hb, hok, hw⟩; replace PS := Lib.hid (PS.out.snoc hw hok (Nat.le_trans D.out.size hb) rfl); replace D := Lib.hid (gr_tr D.out hw); replace K := Lib.hid (K.out.below hw); clear hb hok hw))
  refine ⟨K.out, ?_⟩
  refine wpS_chain rfl ?_
  go_wp2_with (go_at_call 143; go_loud (refine (at_flag X 1 2 _).mono ?_; rintro r W3 ⟨b1, rfl, hb, hok, hw⟩; replace PS := Lib.hid (PS.out.snoc hw hok (Nat.le_trans D.out.size hb) rfl); replace D := Lib.hid (gr_tr D.out hw); replace K := Lib.hid (K.out.below hw); clear hb hok hw))
  refine ⟨K.out, ?_⟩
  refine wpS_chain rfl ?_
  go_wp2_with (go_at_call 126; go_loud (refine (at_u32 X 2 4 _).mono ?_; rintro r W4 ⟨b2, rfl, hb, hok, hw⟩; replace PS := Lib.hid (PS.out.snoc hw hok (Nat.le_trans D.out.size hb) rfl); replace D := Lib.hid (gr_tr D.out hw); replace K := Lib.hid (K.out.below hw); clear hb hok hw))
  refine ⟨K.out, ?_⟩
  refine wpS_chain rfl ?_
  go_wp2_with (go_at_call 126; go_loud (refine (at_u32 X 3 8 _).mono ?_; rintro r W5 ⟨b3, rfl, hb, hok, hw⟩; replace PS := Lib.hid (PS.out.snoc hw hok (Nat.le_trans D.out.size hb) rfl); replace D := Lib.hid (gr_tr D.out hw); replace K := Lib.hid (K.out.below hw); clear hb hok hw))
  refine ⟨K.out, ?_⟩
  refine wpS_chain rfl ?_
  go_wp2_with (go_at_call 142; go_loud (refine (at_u64 X 4 2816 _).mono ?_; rintro r W6 ⟨b4, rfl, hb, hok, hw⟩; replace PS := Lib.hid (PS.out.snoc hw hok (Nat.le_trans D.out.size hb) rfl); replace D := Lib.hid (gr_tr D.out hw); replace K := Lib.hid (K.out.below hw); clear hb hok hw))
  refine ⟨K.out, ?_⟩
  refine wpS_chain rfl ?_
  go_wp2_with (go_at_call 131; go_loud (refine (at_u8 X 5 2824 _).mono ?_; rintro r W7 ⟨b5, rfl, hb, hok, hw⟩; replace PS := Lib.hid (PS.out.snoc hw hok (Nat.le_trans D.out.size hb) rfl); replace D := Lib.hid (gr_tr D.out hw); replace K := Lib.hid (K.out.below hw); clear hb hok hw))
  refine ⟨K.out, ?_⟩
  refine wpS_chain rfl ?_
  obtain ⟨ie, i1, i2, i3, -⟩ := placesOk.info
  refine wpList_buildSlice rfl 152 224 6 _ rfl ((([⟨0, .flag, X, 0, b0⟩, ⟨2, .flag, X, 1, b1⟩, ⟨4, .u32, X, 2, b2⟩, ⟨8, .u32, X, 3, b3⟩, ⟨2816, .u64, X, 4, b4⟩, ⟨2824, .u8, X, 5, b5⟩] : List Pl).flatMap Pl.cells).toArray) ie _ placesOk.under i1 i2 (by rw [i3]; decide) (by rw [i3]; decide) (by rw [i3]; kernel_rfl) ?_
  have DSZ := Lib.hid D.out.size
  have SV := Lib.hid (SliceV.of_cells (f := Pl.cells) W7 [⟨0, .flag, X, 0, b0⟩, ⟨2, .flag, X, 1, b1⟩, ⟨4, .u32, X, 2, b2⟩, ⟨8, .u32, X, 3, b3⟩, ⟨2816, .u64, X, 4, b4⟩, ⟨2824, .u8, X, 5, b5⟩] ((([⟨0, .flag, X, 0, b0⟩, ⟨2, .flag, X, 1, b1⟩, ⟨4, .u32, X, 2, b2⟩, ⟨8, .u32, X, 3, b3⟩, ⟨2816, .u64, X, 4, b4⟩, ⟨2824, .u8, X, 5, b5⟩] : List Pl).flatMap Pl.cells).toArray) 224 6 rfl (by omega) rfl)
  replace PS := Lib.hid (PS.out.below (gr_alloc W7 (.cells ((([⟨0, .flag, X, 0, b0⟩, ⟨2, .flag, X, 1, b1⟩, ⟨4, .u32, X, 2, b2⟩, ⟨8, .u32, X, 3, b3⟩, ⟨2816, .u64, X, 4, b4⟩, ⟨2824, .u8, X, 5, b5⟩] : List Pl).flatMap Pl.cells).toArray) 224)))
  replace D := Lib.hid (gr_tr D.out (gr_alloc W7 (.cells ((([⟨0, .flag, X, 0, b0⟩, ⟨2, .flag, X, 1, b1⟩, ⟨4, .u32, X, 2, b2⟩, ⟨8, .u32, X, 3, b3⟩, ⟨2816, .u64, X, 4, b4⟩, ⟨2824, .u8, X, 5, b5⟩] : List Pl).flatMap Pl.cells).toArray) 224)))
  replace K := Lib.hid (K.out.below (gr_alloc W7 (.cells ((([⟨0, .flag, X, 0, b0⟩, ⟨2, .flag, X, 1, b1⟩, ⟨4, .u32, X, 2, b2⟩, ⟨8, .u32, X, 3, b3⟩, ⟨2816, .u64, X, 4, b4⟩, ⟨2824, .u8, X, 5, b5⟩] : List Pl).flatMap Pl.cells).toArray) 224)))
  generalize (World.alloc W7 (.cells ((([⟨0, .flag, X, 0, b0⟩, ⟨2, .flag, X, 1, b1⟩, ⟨4, .u32, X, 2, b2⟩, ⟨8, .u32, X, 3, b3⟩, ⟨2816, .u64, X, 4, b4⟩, ⟨2824, .u8, X, 5, b5⟩] : List Pl).flatMap Pl.cells).toArray) 224)) = WE at *
  obtain ⟨pv, hpv⟩ : ∃ pv, Value.slice (some ⟨World.heap W7 |>.size, 0, none⟩) 6 6 = pv := ⟨_, rfl⟩
  have NV := Lib.hid (show NewS w.heap.size pv from fun g o n c e => by rw [← hpv] at e; cases e; exact DSZ.out)
  rw [hpv] at SV ⊢
  clear hpv
  refine ⟨K.out, ?_⟩
  refine wpS_run (r := []) 73 [0, 1, 2, 3, 4, 5] offZn [25] _ _ rfl ?_
  unfold wpS
  go_wp2
  go_ret
  have hps := PS.out
  simp only [List.nil_append, List.cons_append] at hps
  exact ⟨pv, _, rfl, SV.out, rfl, hps, NV.out, D.out⟩
set_option maxHeartbeats 6400000 in
set_option maxRecDepth 100000 in
theorem EncZ_at (x : Zn) (w : World) :
    Calls Tryd.prog 36 #[.agg (Zn.cells x).toArray] w fun e w' => ∃ u, e = .returned u ∧ BytesV w' u (znB x) ∧ Below w.heap.size w w' := by
  obtain ⟨L0, hL0⟩ : ∃ L, Lay.lays zeros (znFs x) = L := ⟨_, rfl⟩
  have HL0 := Lib.hid hL0; clear hL0
  obtain ⟨W, hW⟩ : ∃ W, W = w.alloc (.cells (Zn.cells x).toArray 73) := ⟨_, rfl⟩
  have BX := Lib.hid (show W.heap[w.heap.size]? = some (.cells (Zn.cells x).toArray 73 (0, 0)) by rw [hW]; exact heap_alloc_new w _)
  have D := Lib.hid (show Below w.heap.size w W by rw [hW]; exact gr_alloc w _)
  have HS := Lib.hid (show w.heap.size < W.heap.size by rw [hW]; simp)
  have HW := Lib.hid hW; clear hW
  have FC := Lib.hid (zn_fits x)
  obtain ⟨cs, hcs⟩ : ∃ cs, (Zn.cells x).toArray = cs := ⟨_, rfl⟩
  replace FC := Lib.hid (show ∀ p ∈ znSpec.zip (znV x), Fits cs.toList p by rw [← hcs]; exact FC.out)
  rw [hcs] at BX HW ⊢
  clear hcs
  go_enter Tryd.func36, Tryd.ntmps36
  go_upto_region 1 with (fail)
  rw [← HW.out]
  go_wp2_with (first
    | (refine make_law bytesOk rfl _ _ rfl W.heap.size .i64 .i64 4096 4096 4096 rfl rfl rfl rfl (by omega) (by omega) (Nat.le_refl _) ?_; intro w2 hown hgrow; have O := Lib.hid (show Own4 w2 W.heap.size W.heap.size 4096 zeros by have h := hown; rw [by8_made] at h; exact h); have D2 := Lib.hid ((Below.refl W.heap.size W).grown hgrow (Nat.le_refl _) (by intro k hk; cases hk)); replace BX := Lib.hid (blk_below BX.out D2.out); replace D := Lib.hid (gr_tr D.out D2.out); clear hgrow hown)
    | (go_at_call 92; go_loud (refine (zoned_any w.heap.size _).mono ?_; rintro r w3 ⟨pv, ps, rfl, hsv, hkey, hps, hnv, hw⟩; have SV := Lib.hid hsv; have KEY := Lib.hid hkey; have PS := Lib.hid hps; have NV := Lib.hid hnv; have O3 := Lib.hid (O.out.below hw); replace BX := Lib.hid (blk_below BX.out hw); replace D := Lib.hid (gr_tr D.out hw); clear hsv hkey hps hnv hw))
    | (go_at_call 84; go_loud (have hlen : ps.length = (znV x).length := (by have := congrArg List.length KEY.out; rw [List.length_map] at this; rw [this]; rfl); refine (store_any W.heap.size 4096 W.heap.size zeros pv (ps.zip (znV x)) _ O3.out (SV.out.zip (znV x) hlen) (fun g o n c e h => by have := NV.out g o n c e; have := O.out.lt.2; omega) (zip_has KEY.out PS.out BX.out FC.out (by have := HS.out; omega) O.out.lt.2)).mono ?_; rw [zip_key ps znSpec (znV x) KEY.out]; rintro r w4 ⟨rfl, ho, hc⟩; have O4 := Lib.hid (show Own4 w4 W.heap.size W.heap.size 4096 L0 by rw [← HL0.out]; exact ho); replace D := Lib.hid (hc.fresh D.out (fun k hk => by have := HS.out; omega)); clear ho hc hlen)))
  go_ret
  exact ⟨_, rfl, by unfold znB; rw [HL0.out]; exact O4.out.bytes, D.out⟩
end Go.Proofs.YthnnopjakpjoeaaDoor
