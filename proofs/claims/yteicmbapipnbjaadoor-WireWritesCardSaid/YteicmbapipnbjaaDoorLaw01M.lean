/- One call of a writer, as WireWrites makes it (the law's inner function add). Printed by gen01m.py. -/
import Derived.Test.YteicmbapipnbjaaDoorLaw01L
import Derived.Test.YteicmbapipnbjaaDoorWireJ
namespace Go.Proofs.YteicmbapipnbjaaDoor
open Go.RowKit
set_option linter.unusedVariables false
set_option linter.unusedSimpArgs false
structure AddAt (w0 w : World) (base p : Nat) (v : Value) (l : List (BitVec 8)) (fs bv : Value) (fl : List WF) (bl : List (BitVec 8)) (n : Int) : Prop where
  wr : WrAt w base p v l
  f : FieldsV w0 fs fl
  b : BytesV w0 bv bl
  hb : Below w0.heap.size w0 w
  hbase : w0.heap.size ≤ base
  hp : w0.heap.size ≤ p
  hbw : base ≤ w.heap.size
  hf : fl.length ≤ 20
  hbl : bl.length ≤ 100
  hn : n ≤ 1000
  hn2 : I64 n
  hl : l.length ≤ 100000
def AddOut (w : World) (base p : Nat) (v : Value) (l : List (BitVec 8)) (e : Ending) (w' : World) : Prop :=
  ∃ u b, e = .returned (.tuple #[u, .bool true]) ∧ BytesV w' u b ∧ b.length ≤ 1000 ∧ (∃ v', WrAt w' base p v' (l ++ b) ∧ (v'.ownBlock = v.ownBlock ∨ ∃ g, v'.ownBlock = some g ∧ w.heap.size ≤ g)) ∧ Chg (WrB p v) w w'
theorem add_fit {l b : List (BitVec 8)} {e : Int} (h1 : l.length ≤ 100000) (h2 : b.length ≤ 1000) (h3 : e ≠ 0 → b = []) : addE l b e = e ∧ addL l b e = l ++ b := by
  have he : addE l b e = e := by
    unfold addE
    by_cases h : e = 0
    · subst h; rw [if_neg (by omega), if_neg (by omega)]
    · rw [if_pos h]
  refine ⟨he, ?_⟩
  unfold addL
  rw [he]
  by_cases h : e = 0
  · rw [if_pos h]
  · rw [if_neg h, h3 h, List.append_nil]
theorem off_new {w : World} {base p n : Nat} {v u : Value} {l : List (BitVec 8)} (hw : WrAt w base p v l) (hu : NewV n u) (hn : w.heap.size ≤ n) : Off (WrB p v) u := by
  intro g o m c e h
  have h1 := hu g o m c e
  rcases h with h | h
  · have : p < w.heap.size := (Array.getElem?_eq_some_iff.1 hw.blk).1
    omega
  · have := (hw.own.lt g h).2; omega
theorem off_old {w0 w : World} {base p : Nat} {v u : Value} {l b : List (BitVec 8)} (hw : WrAt w base p v l) (hu : BytesV w0 u b) (h1 : w0.heap.size ≤ base) (h2 : w0.heap.size ≤ p) (hb : Below w0.heap.size w0 w) {w' : World} (hc : Chg (WrB p v) w w') : BytesV w' u b := by
  have : Below w0.heap.size w0 w' := hc.fresh hb (fun k hk => by
    rcases hk with rfl | hk
    · exact h2
    · exact Nat.le_trans h1 (hw.own.lt k hk).1)
  exact hu.below this
theorem at_old {v v' : Value} {a b : Nat} (h : v'.ownBlock = v.ownBlock ∨ ∃ g, v'.ownBlock = some g ∧ b ≤ g) (hab : a ≤ b) : v'.ownBlock = v.ownBlock ∨ ∃ g, v'.ownBlock = some g ∧ a ≤ g := by
  rcases h with h | ⟨g, h, h2⟩
  · exact .inl h
  · exact .inr ⟨g, h, Nat.le_trans hab h2⟩
theorem Keep.chg {B C : Nat → Prop} {w x x' : World} (h : Keep B w x) (c : Chg C x x') (hr : ∀ k, C k → B k ∨ w.heap.size ≤ k) : Keep B w x' := by
  obtain ⟨y, rfl⟩ := h
  refine ⟨⟨x', Nat.le_trans y.size c.size, fun k hk hn => ?_⟩, rfl⟩
  refine (c.block k (Nat.lt_of_lt_of_le hk y.size) (fun e => ?_)).trans (y.block k hk hn)
  rcases hr k e with h | h
  · exact hn h
  · omega
theorem putB_nil {x : BitVec 64} {n e : Int} {b : List (BitVec 8)} (he : Wire.putE x n = e) (hb : Wire.putB x n = b) : e ≠ 0 → b = [] := fun h => by rw [← hb]; exact Wire.putB_no x n (by rw [he]; exact h)
theorem allB_nil {fl : List WF} {e : Int} {b : List (BitVec 8)} (he : Wire.allE fl = e) (hb : Wire.allB fl = b) : e ≠ 0 → b = [] := fun h => by rw [← hb]; unfold Wire.allB; rw [he, if_neg h]
theorem allB_len {fl : List WF} (h : fl.length ≤ 20) : (Wire.allB fl).length ≤ 1000 := by
  have := Wire.cat_len fl
  unfold Wire.allB; split
  · omega
  · simp
theorem pad_nil {l : List (BitVec 8)} {n e : Int} {b : List (BitVec 8)} (he : Wire.padE l n = e) (hb : Wire.pad l n = b) : e ≠ 0 → b = [] := fun h => by rw [← hb]; unfold Wire.pad; rw [he, if_neg h]
theorem pad_len {l : List (BitVec 8)} {n : Int} (h : l.length ≤ 100) (hn : n ≤ 1000) : (Wire.pad l n).length ≤ 1000 := by
  unfold Wire.pad; split
  · rw [List.length_append, List.length_replicate]; omega
  · simp
set_option maxHeartbeats 1600000 in
set_option maxRecDepth 100000 in
theorem add0 (w0 w : World) (base p : Nat) (v : Value) (l : List (BitVec 8)) (fs bv : Value) (fl : List WF) (bl : List (BitVec 8)) (x : BitVec 64) (n : Int) (h : AddAt w0 w base p v l fs bv fl bl n) :
    Calls Tryd.prog 35 #[.pointer (some ⟨p, 0, none⟩), .agg #[.int .i64 0, .int .u64 (uv x), .int .i64 n, fs, bv]] w (AddOut w base p v l) := by
  obtain ⟨wr, hf, hb, hbw, hbase, hp, hbs, hfl, hbl, hn1, hn2, hl⟩ := h; have F := Lib.hid hf; have B := Lib.hid hb; obtain ⟨af, cf, rfl, -⟩ := hf; obtain ⟨ab, cb, rfl, -⟩ := hb; have hps : p < w.heap.size := (Array.getElem?_eq_some_iff.1 wr.blk).1; have WR := Lib.hid (wr.below (gr_alloc w (.cells #[.int .i64 0, .int .u64 (uv x), .int .i64 n, .slice af fl.length cf, .slice ab bl.length cb] 78))); have D := Lib.hid (hbw.trans ((gr_alloc w (.cells #[.int .i64 0, .int .u64 (uv x), .int .i64 n, .slice af fl.length cf, .slice ab bl.length cb] 78)).mono hbw.size)); have A0 := Lib.hid (gr_alloc w (.cells #[.int .i64 0, .int .u64 (uv x), .int .i64 n, .slice af fl.length cf, .slice ab bl.length cb] 78)); have HNP := Lib.hid (show ¬ WrB p v w.heap.size by rintro (h | h); omega; have := (wr.own.lt _ h).2; omega); have HBASE := Lib.hid hbase; have HP := Lib.hid hp; have HBS := Lib.hid (Nat.le_trans hbs A0.out.size); have HFL := Lib.hid hfl; have HBL := Lib.hid hbl; have HN := Lib.hid hn1; have HN2 := Lib.hid hn2; have HL := Lib.hid hl; have HPS := Lib.hid hps; clear wr hbw hbase hp hbs hfl hbl hn1 hn2 hl hps
  obtain ⟨e, he⟩ : ∃ e, Wire.putE x n = e := ⟨_, rfl⟩
  obtain ⟨b, hb⟩ : ∃ b, Wire.putB x n = b := ⟨_, rfl⟩
  have hbl : b.length ≤ 1000 := by rw [← hb]; exact (by have := Wire.putB_len x n; omega)
  obtain ⟨a1, a2⟩ := add_fit (l := l) HL.out hbl (putB_nil he hb)
  have HE := Lib.hid he; have HB := Lib.hid hb; have HBB := Lib.hid hbl; have A1 := Lib.hid a1; have A2 := Lib.hid a2
  clear he hb hbl a1 a2
  go_enter Tryd.func35, Tryd.ntmps35
  go_wp2_with (first
    | (go_at_call 12; go_loud (refine (rPut_new x n e b _ HE.out HB.out).mono ?_; rintro r w1 ⟨u, rfl, hu, hnu, hw⟩; have U := Lib.hid hu; have NU := Lib.hid hnu; have c1 : w1.cell? ⟨w.heap.size, 1, none⟩ = some (.int .u64 (uv x)) := (hw.cell (p := ⟨w.heap.size, 1, none⟩) (by simp)).trans (cell_of_row _ _ _ _ _ _ (heap_alloc_new w _)); have c2 : w1.cell? ⟨w.heap.size, 2, none⟩ = some (.int .i64 n) := (hw.cell (p := ⟨w.heap.size, 2, none⟩) (by simp)).trans (cell_of_row _ _ _ _ _ _ (heap_alloc_new w _)); have W1 := Lib.hid (WR.out.below hw); have D1 := Lib.hid (gr_tr A0.out hw); have HBS1 := Lib.hid (Nat.le_trans HBS.out hw.size); have DD := Lib.hid (D.out.trans (hw.mono D.out.size)); clear hu hnu hw))
    | (go_at_call 40; go_loud (refine (Add_w base p v l x n b e _ W1.out HBS1.out HB.out HE.out).mono ?_; rw [A1.out, A2.out]; rintro r w2 ⟨rfl, ⟨v2, hw2, hat⟩, hc⟩; have W2 := Lib.hid hw2; have AT := Lib.hid (at_old hat D1.out.size); have UU := Lib.hid (U.out.chg hc (off_new WR.out NU.out (Nat.le_refl _))); have C2 := Lib.hid ((Chg.of_below D1.out).trans hc); clear hw2 hat hc)))
  go_ret2
  exact ⟨_, b, rfl, UU.out, HBB.out, ⟨v2, W2.out, AT.out⟩, C2.out⟩
set_option maxHeartbeats 1600000 in
set_option maxRecDepth 100000 in
theorem add1 (w0 w : World) (base p : Nat) (v : Value) (l : List (BitVec 8)) (fs bv : Value) (fl : List WF) (bl : List (BitVec 8)) (x : BitVec 64) (n : Int) (h : AddAt w0 w base p v l fs bv fl bl n) :
    Calls Tryd.prog 35 #[.pointer (some ⟨p, 0, none⟩), .agg #[.int .i64 1, .int .u64 (uv x), .int .i64 n, fs, bv]] w (AddOut w base p v l) := by
  obtain ⟨wr, hf, hb, hbw, hbase, hp, hbs, hfl, hbl, hn1, hn2, hl⟩ := h; have F := Lib.hid hf; have B := Lib.hid hb; obtain ⟨af, cf, rfl, -⟩ := hf; obtain ⟨ab, cb, rfl, -⟩ := hb; have hps : p < w.heap.size := (Array.getElem?_eq_some_iff.1 wr.blk).1; have WR := Lib.hid (wr.below (gr_alloc w (.cells #[.int .i64 1, .int .u64 (uv x), .int .i64 n, .slice af fl.length cf, .slice ab bl.length cb] 78))); have D := Lib.hid (hbw.trans ((gr_alloc w (.cells #[.int .i64 1, .int .u64 (uv x), .int .i64 n, .slice af fl.length cf, .slice ab bl.length cb] 78)).mono hbw.size)); have A0 := Lib.hid (gr_alloc w (.cells #[.int .i64 1, .int .u64 (uv x), .int .i64 n, .slice af fl.length cf, .slice ab bl.length cb] 78)); have HNP := Lib.hid (show ¬ WrB p v w.heap.size by rintro (h | h); omega; have := (wr.own.lt _ h).2; omega); have HBASE := Lib.hid hbase; have HP := Lib.hid hp; have HBS := Lib.hid (Nat.le_trans hbs A0.out.size); have HFL := Lib.hid hfl; have HBL := Lib.hid hbl; have HN := Lib.hid hn1; have HN2 := Lib.hid hn2; have HL := Lib.hid hl; have HPS := Lib.hid hps; clear wr hbw hbase hp hbs hfl hbl hn1 hn2 hl hps
  obtain ⟨e, he⟩ : ∃ e, Wire.allE fl = e := ⟨_, rfl⟩
  obtain ⟨b, hb⟩ : ∃ b, Wire.allB fl = b := ⟨_, rfl⟩
  have hbl : b.length ≤ 1000 := by rw [← hb]; exact allB_len HFL.out
  obtain ⟨a1, a2⟩ := add_fit (l := l) HL.out hbl (allB_nil he hb)
  have HE := Lib.hid he; have HB := Lib.hid hb; have HBB := Lib.hid hbl; have A1 := Lib.hid a1; have A2 := Lib.hid a2
  clear he hb hbl a1 a2
  go_enter Tryd.func35, Tryd.ntmps35
  go_wp2_with (first
    | (go_at_call 63; go_loud (refine (rPutAll_new _ fl e b _ (F.out.below D.out) (by have := HFL.out; omega) HE.out HB.out).mono ?_; rintro r w1 ⟨u, rfl, hu, hnu, hw⟩; have U := Lib.hid hu; have NU := Lib.hid hnu; have c3 : w1.cell? ⟨w.heap.size, 3, none⟩ = some (.slice af fl.length cf) := (hw.cell (p := ⟨w.heap.size, 3, none⟩) (by simp)).trans (cell_of_row _ _ _ _ _ _ (heap_alloc_new w _)); have W1 := Lib.hid (WR.out.below hw); have D1 := Lib.hid (gr_tr A0.out hw); have HBS1 := Lib.hid (Nat.le_trans HBS.out hw.size); have DD := Lib.hid (D.out.trans (hw.mono D.out.size)); clear hu hnu hw))
    | (go_at_call 25; go_loud (refine (AddAll_any base p v l _ fl b e _ W1.out (F.out.below DD.out) HBS1.out (by have := HFL.out; omega) HB.out HE.out).mono ?_; rw [A1.out, A2.out]; rintro r w2 ⟨rfl, ⟨v2, hw2, hat⟩, hc⟩; have W2 := Lib.hid hw2; have AT := Lib.hid (at_old hat D1.out.size); have UU := Lib.hid (U.out.chg hc (off_new WR.out NU.out (Nat.le_refl _))); have C2 := Lib.hid ((Chg.of_below D1.out).trans hc); clear hw2 hat hc)))
  go_ret2
  exact ⟨_, b, rfl, UU.out, HBB.out, ⟨v2, W2.out, AT.out⟩, C2.out⟩
set_option maxHeartbeats 1600000 in
set_option maxRecDepth 100000 in
theorem add3 (w0 w : World) (base p : Nat) (v : Value) (l : List (BitVec 8)) (fs bv : Value) (fl : List WF) (bl : List (BitVec 8)) (x : BitVec 64) (n : Int) (h : AddAt w0 w base p v l fs bv fl bl n) :
    Calls Tryd.prog 35 #[.pointer (some ⟨p, 0, none⟩), .agg #[.int .i64 3, .int .u64 (uv x), .int .i64 n, fs, bv]] w (AddOut w base p v l) := by
  obtain ⟨wr, hf, hb, hbw, hbase, hp, hbs, hfl, hbl, hn1, hn2, hl⟩ := h; have F := Lib.hid hf; have B := Lib.hid hb; obtain ⟨af, cf, rfl, -⟩ := hf; obtain ⟨ab, cb, rfl, -⟩ := hb; have hps : p < w.heap.size := (Array.getElem?_eq_some_iff.1 wr.blk).1; have WR := Lib.hid (wr.below (gr_alloc w (.cells #[.int .i64 3, .int .u64 (uv x), .int .i64 n, .slice af fl.length cf, .slice ab bl.length cb] 78))); have D := Lib.hid (hbw.trans ((gr_alloc w (.cells #[.int .i64 3, .int .u64 (uv x), .int .i64 n, .slice af fl.length cf, .slice ab bl.length cb] 78)).mono hbw.size)); have A0 := Lib.hid (gr_alloc w (.cells #[.int .i64 3, .int .u64 (uv x), .int .i64 n, .slice af fl.length cf, .slice ab bl.length cb] 78)); have HNP := Lib.hid (show ¬ WrB p v w.heap.size by rintro (h | h); omega; have := (wr.own.lt _ h).2; omega); have HBASE := Lib.hid hbase; have HP := Lib.hid hp; have HBS := Lib.hid (Nat.le_trans hbs A0.out.size); have HFL := Lib.hid hfl; have HBL := Lib.hid hbl; have HN := Lib.hid hn1; have HN2 := Lib.hid hn2; have HL := Lib.hid hl; have HPS := Lib.hid hps; clear wr hbw hbase hp hbs hfl hbl hn1 hn2 hl hps
  obtain ⟨e, he⟩ : ∃ e, Wire.padE bl n = e := ⟨_, rfl⟩
  obtain ⟨b, hb⟩ : ∃ b, Wire.pad bl n = b := ⟨_, rfl⟩
  have hbl : b.length ≤ 1000 := by rw [← hb]; exact pad_len HBL.out HN.out
  obtain ⟨a1, a2⟩ := add_fit (l := l) HL.out hbl (pad_nil he hb)
  have HE := Lib.hid he; have HB := Lib.hid hb; have HBB := Lib.hid hbl; have A1 := Lib.hid a1; have A2 := Lib.hid a2
  clear he hb hbl a1 a2
  have hs := run_string (B.out.below D.out)
  go_enter Tryd.func35, Tryd.ntmps35
  go_wp2_with (first
    | (go_at_call 22; go_loud (refine (rPad_new bl n e b _ (by have := HBL.out; omega) HN2.out.1 HE.out HB.out).mono ?_; rintro r w1 ⟨u, rfl, hu, hnu, hw⟩; have U := Lib.hid hu; have NU := Lib.hid hnu; have c2 : w1.cell? ⟨w.heap.size, 2, none⟩ = some (.int .i64 n) := (hw.cell (p := ⟨w.heap.size, 2, none⟩) (by simp)).trans (cell_of_row _ _ _ _ _ _ (heap_alloc_new w _)); have c4 : w1.cell? ⟨w.heap.size, 4, none⟩ = some (.slice ab bl.length cb) := (hw.cell (p := ⟨w.heap.size, 4, none⟩) (by simp)).trans (cell_of_row _ _ _ _ _ _ (heap_alloc_new w _)); have W1 := Lib.hid (WR.out.below hw); have D1 := Lib.hid (gr_tr A0.out hw); have HBS1 := Lib.hid (Nat.le_trans HBS.out hw.size); have DD := Lib.hid (D.out.trans (hw.mono D.out.size)); have hs2 := run_string (B.out.below DD.out); clear hu hnu hw))
    | (go_at_call 39; go_loud (refine (AddText_w base p v l bl n b e _ W1.out HBS1.out (by have := HBL.out; omega) HN2.out.1 HB.out HE.out).mono ?_; rw [A1.out, A2.out]; rintro r w2 ⟨rfl, ⟨v2, hw2, hat⟩, hc⟩; have W2 := Lib.hid hw2; have AT := Lib.hid (at_old hat D1.out.size); have UU := Lib.hid (U.out.chg hc (off_new WR.out NU.out (Nat.le_refl _))); have C2 := Lib.hid ((Chg.of_below D1.out).trans hc); clear hw2 hat hc)))
  go_ret2
  exact ⟨_, b, rfl, UU.out, HBB.out, ⟨v2, W2.out, AT.out⟩, C2.out⟩
set_option maxHeartbeats 1600000 in
set_option maxRecDepth 100000 in
theorem add2 (w0 w : World) (base p : Nat) (v : Value) (l : List (BitVec 8)) (fs bv : Value) (fl : List WF) (bl : List (BitVec 8)) (x : BitVec 64) (n : Int) (h : AddAt w0 w base p v l fs bv fl bl n) :
    Calls Tryd.prog 35 #[.pointer (some ⟨p, 0, none⟩), .agg #[.int .i64 2, .int .u64 (uv x), .int .i64 n, fs, bv]] w (AddOut w base p v l) := by
  obtain ⟨wr, hf, hb, hbw, hbase, hp, hbs, hfl, hbl, hn1, hn2, hl⟩ := h; have F := Lib.hid hf; have B := Lib.hid hb; obtain ⟨af, cf, rfl, -⟩ := hf; obtain ⟨ab, cb, rfl, -⟩ := hb; have hps : p < w.heap.size := (Array.getElem?_eq_some_iff.1 wr.blk).1; have WR := Lib.hid (wr.below (gr_alloc w (.cells #[.int .i64 2, .int .u64 (uv x), .int .i64 n, .slice af fl.length cf, .slice ab bl.length cb] 78))); have D := Lib.hid (hbw.trans ((gr_alloc w (.cells #[.int .i64 2, .int .u64 (uv x), .int .i64 n, .slice af fl.length cf, .slice ab bl.length cb] 78)).mono hbw.size)); have A0 := Lib.hid (gr_alloc w (.cells #[.int .i64 2, .int .u64 (uv x), .int .i64 n, .slice af fl.length cf, .slice ab bl.length cb] 78)); have HNP := Lib.hid (show ¬ WrB p v w.heap.size by rintro (h | h); omega; have := (wr.own.lt _ h).2; omega); have HBASE := Lib.hid hbase; have HP := Lib.hid hp; have HBS := Lib.hid (Nat.le_trans hbs A0.out.size); have HFL := Lib.hid hfl; have HBL := Lib.hid hbl; have HN := Lib.hid hn1; have HN2 := Lib.hid hn2; have HL := Lib.hid hl; have HPS := Lib.hid hps; clear wr hbw hbase hp hbs hfl hbl hn1 hn2 hl hps
  obtain ⟨a1, a2⟩ := add_fit (l := l) (b := bl) (e := 0) HL.out (by have := HBL.out; omega) (fun h => absurd rfl h)
  have A1 := Lib.hid a1; have A2 := Lib.hid a2
  clear a1 a2
  obtain ⟨W, hW⟩ : ∃ W, W = w.alloc (.cells #[.int .i64 2, .int .u64 (uv x), .int .i64 n, .slice af fl.length cf, .slice ab bl.length cb] 78) := ⟨_, rfl⟩
  have c0 : W.cell? ⟨w.heap.size, 0, none⟩ = some (.int .i64 2) := by rw [hW]; exact cell_of_row _ _ _ _ _ _ (heap_alloc_new w _)
  have c4 : W.cell? ⟨w.heap.size, 4, none⟩ = some (.slice ab bl.length cb) := by rw [hW]; exact cell_of_row _ _ _ _ _ _ (heap_alloc_new w _)
  have q4 : ∀ y : KeepT (WrB p v) W, y.val.cell? ⟨w.heap.size, 4, none⟩ = some (.slice ab bl.length cb) := fun y => y.cell c4 HNP.out
  rw [← hW] at WR D A0 HBS
  have HW := Lib.hid hW; clear hW
  go_enter Tryd.func35, Tryd.ntmps35
  go_upto_region 1 with (fail)
  rw [← HW.out]
  go_upto_region 9 with (fail)
  go_wp2
  refine wp_region_planW (WrB p v) [(true, 0), (true, 1), (true, 2), (true, 3), (true, 4), (false, 5), (true, 6), (true, 7), (true, 8)]
    (by kernel_rfl) (by kernel_rfl) (by intro c a d v w h; cases d <;> exact h) ?_
  intro W1 K1 C1
  repeat (refine wpS_firm rfl (fun K hK => ?_); simp only [Keep]; go_simp; refine hK _ ?_; clear hK K)
  have D1 := Lib.hid (D.out.trans (C1.out.mono D.out.size))
  refine wpS_chain rfl ?_
  go_wp2_with (go_at_call 38; go_loud (refine (AddBytes_w base p v l _ bl _ (WR.out.below C1.out) (B.out.below D1.out) (Nat.le_trans HBS.out C1.out.size) (by have := HBL.out; omega)).mono ?_; rw [A1.out, A2.out]; rintro r w2 ⟨rfl, ⟨v2, hw2, hat⟩, hc⟩; have W2 := Lib.hid hw2; have AT := Lib.hid (at_old hat (Nat.le_trans A0.out.size C1.out.size)); have UU := Lib.hid (off_old (WR.out.below C1.out) B.out HBASE.out HP.out D1.out hc); have C2 := Lib.hid ((Chg.of_below (gr_tr A0.out C1.out)).trans hc); have K2 := Lib.hid (K1.out.chg hc (fun k hk => .inl hk)); clear hw2 hat hc))
  refine ⟨K2.out, ?_⟩
  repeat (refine wpS_firm rfl (fun K hK => ?_); simp only [Keep]; go_simp; refine hK _ ?_; clear hK K)
  unfold wpS
  go_wp2
  go_ret2
  exact ⟨_, bl, rfl, UU.out, by have := HBL.out; omega, ⟨v2, W2.out, AT.out⟩, C2.out⟩
set_option maxHeartbeats 1600000 in
set_option maxRecDepth 100000 in
theorem add4_neg (w0 w : World) (base p : Nat) (v : Value) (l : List (BitVec 8)) (fs bv : Value) (fl : List WF) (bl : List (BitVec 8)) (x : BitVec 64) (n : Int) (h : AddAt w0 w base p v l fs bv fl bl n) (hneg : n < 0) :
    Calls Tryd.prog 35 #[.pointer (some ⟨p, 0, none⟩), .agg #[.int .i64 4, .int .u64 (uv x), .int .i64 n, fs, bv]] w (AddOut w base p v l) := by
  obtain ⟨wr, hf, hb, hbw, hbase, hp, hbs, hfl, hbl, hn1, hn2, hl⟩ := h; have F := Lib.hid hf; have B := Lib.hid hb; obtain ⟨af, cf, rfl, -⟩ := hf; obtain ⟨ab, cb, rfl, -⟩ := hb; have hps : p < w.heap.size := (Array.getElem?_eq_some_iff.1 wr.blk).1; have WR := Lib.hid (wr.below (gr_alloc w (.cells #[.int .i64 4, .int .u64 (uv x), .int .i64 n, .slice af fl.length cf, .slice ab bl.length cb] 78))); have D := Lib.hid (hbw.trans ((gr_alloc w (.cells #[.int .i64 4, .int .u64 (uv x), .int .i64 n, .slice af fl.length cf, .slice ab bl.length cb] 78)).mono hbw.size)); have A0 := Lib.hid (gr_alloc w (.cells #[.int .i64 4, .int .u64 (uv x), .int .i64 n, .slice af fl.length cf, .slice ab bl.length cb] 78)); have HNP := Lib.hid (show ¬ WrB p v w.heap.size by rintro (h | h); omega; have := (wr.own.lt _ h).2; omega); have HBASE := Lib.hid hbase; have HP := Lib.hid hp; have HBS := Lib.hid (Nat.le_trans hbs A0.out.size); have HFL := Lib.hid hfl; have HBL := Lib.hid hbl; have HN := Lib.hid hn1; have HN2 := Lib.hid hn2; have HL := Lib.hid hl; have HPS := Lib.hid hps; clear wr hbw hbase hp hbs hfl hbl hn1 hn2 hl hps
  go_enter Tryd.func35, Tryd.ntmps35
  go_wp2_with (go_at_call 37; go_loud (refine (Zero_neg p n _ hneg).mono ?_; rintro r w' ⟨rfl, rfl⟩))
  go_ret2
  exact ⟨_, [], rfl, BytesV.nil _, by simp, ⟨v, by rw [List.append_nil]; exact WR.out, .inl rfl⟩, Chg.of_below A0.out⟩
set_option maxHeartbeats 1600000 in
set_option maxRecDepth 100000 in
theorem add4_ok (w0 w : World) (base p : Nat) (v : Value) (l : List (BitVec 8)) (fs bv : Value) (fl : List WF) (bl : List (BitVec 8)) (x : BitVec 64) (m : Nat) (h : AddAt w0 w base p v l fs bv fl bl m) :
    Calls Tryd.prog 35 #[.pointer (some ⟨p, 0, none⟩), .agg #[.int .i64 4, .int .u64 (uv x), .int .i64 m, fs, bv]] w (AddOut w base p v l) := by
  obtain ⟨n, hnm⟩ : ∃ n : Int, n = m := ⟨_, rfl⟩
  rw [← hnm] at h ⊢
  obtain ⟨wr, hf, hb, hbw, hbase, hp, hbs, hfl, hbl, hn1, hn2, hl⟩ := h; have F := Lib.hid hf; have B := Lib.hid hb; obtain ⟨af, cf, rfl, -⟩ := hf; obtain ⟨ab, cb, rfl, -⟩ := hb; have hps : p < w.heap.size := (Array.getElem?_eq_some_iff.1 wr.blk).1; have WR := Lib.hid (wr.below (gr_alloc w (.cells #[.int .i64 4, .int .u64 (uv x), .int .i64 n, .slice af fl.length cf, .slice ab bl.length cb] 78))); have D := Lib.hid (hbw.trans ((gr_alloc w (.cells #[.int .i64 4, .int .u64 (uv x), .int .i64 n, .slice af fl.length cf, .slice ab bl.length cb] 78)).mono hbw.size)); have A0 := Lib.hid (gr_alloc w (.cells #[.int .i64 4, .int .u64 (uv x), .int .i64 n, .slice af fl.length cf, .slice ab bl.length cb] 78)); have HNP := Lib.hid (show ¬ WrB p v w.heap.size by rintro (h | h); omega; have := (wr.own.lt _ h).2; omega); have HBASE := Lib.hid hbase; have HP := Lib.hid hp; have HBS := Lib.hid (Nat.le_trans hbs A0.out.size); have HFL := Lib.hid hfl; have HBL := Lib.hid hbl; have HN := Lib.hid hn1; have HN2 := Lib.hid hn2; have HL := Lib.hid hl; have HPS := Lib.hid hps; clear wr hbw hbase hp hbs hfl hbl hn1 hn2 hl hps
  subst hnm
  obtain ⟨b, hb⟩ : ∃ b, List.replicate m 0#8 = b := ⟨_, rfl⟩
  have hbn : b.length = m := by rw [← hb, List.length_replicate]
  obtain ⟨a1, a2⟩ := add_fit (l := l) (b := b) (e := 0) HL.out (by rw [hbn]; have := HN.out; omega) (fun h => absurd rfl h)
  have A1 := Lib.hid a1; have A2 := Lib.hid a2; have HBE := Lib.hid hb; have HBN := Lib.hid hbn; have HM := Lib.hid (show m ≤ 1000 by have := HN.out; omega)
  clear a1 a2 hb hbn
  have d1 : decide ((m : Int) < 0) = false := decide_eq_false (by omega)
  obtain ⟨W, hW⟩ : ∃ W, W = w.alloc (.cells #[.int .i64 4, .int .u64 (uv x), .int .i64 m, .slice af fl.length cf, .slice ab bl.length cb] 78) := ⟨_, rfl⟩
  have c0 : W.cell? ⟨w.heap.size, 0, none⟩ = some (.int .i64 4) := by rw [hW]; exact cell_of_row _ _ _ _ _ _ (heap_alloc_new w _)
  have c2 : W.cell? ⟨w.heap.size, 2, none⟩ = some (.int .i64 m) := by rw [hW]; exact cell_of_row _ _ _ _ _ _ (heap_alloc_new w _)
  have q2 : ∀ y : KeepT (WrB p v) W, y.val.cell? ⟨w.heap.size, 2, none⟩ = some (.int .i64 m) := fun y => y.cell c2 HNP.out
  rw [← hW] at WR D A0 HBS
  have HW := Lib.hid hW; clear hW
  go_enter Tryd.func35, Tryd.ntmps35
  go_upto_region 1 with (fail)
  rw [← HW.out]
  go_upto_region 16 with (fail)
  go_wp2
  refine wp_region_planT (WrB p v) (.firm 0 (.firm 1 (.firm 3 (.firm 4 (.firm 5 (.two 2 (.one 6 (.firm 7 (.firm 8 (.firm 9 .done)))) 6 (.firm 7 (.one 2 (.firm 8 (.firm 9 .done)))))))))) (by kernel_rfl) (by kernel_rfl) (by intro c a d v w h; cases d <;> exact h) ?_
  intro X1 K1 E1
  repeat (refine wpT_firm rfl (fun K hK => ?_); simp only [Keep]; go_simp; refine hK _ ?_; clear hK K)
  have hbs1 := Lib.hid (Nat.le_trans HBS.out E1.out.size)
  refine wpT_two rfl rfl ?_ ?_
  · go_wp2_with (refine make_law bytesOk rfl _ _ rfl X1.heap.size .i64 .i64 (m : Int) (m : Int) m rfl rfl rfl rfl (by have := HM.out; omega) (by have := HM.out; omega) (Nat.le_refl _) ?_; intro w1 hown hgrow; have U1 := Lib.hid (BytesV.of_own (l := b) (by rw [HBN.out, ← HBE.out, ← by8_made]; exact hown)); have NU := Lib.hid (NewV.of_own hown); have C1 := Lib.hid ((Below.refl X1.heap.size X1).grown hgrow (Nat.le_refl _) (by intro k hk; cases hk)); clear hgrow hown)
    have K2 := Lib.hid (K1.out.below C1.out)
    refine ⟨K2.out, ?_⟩
    refine wpT_chain rfl ?_
    go_wp2_with (go_at_call 37; go_loud (refine (Zero_w base p v l m m b _ (WR.out.below (gr_tr E1.out C1.out)) (Nat.le_trans hbs1.out C1.out.size) (by have := HM.out; omega) HBE.out).mono ?_; rw [A1.out, A2.out]; rintro r w2 ⟨rfl, ⟨v2, hw2, hat⟩, hc⟩; have W2 := Lib.hid hw2; have AT := Lib.hid (at_old hat (Nat.le_trans A0.out.size (gr_tr E1.out C1.out).size)); have UU := Lib.hid (U1.out.chg hc (off_new WR.out NU.out E1.out.size)); have C2 := Lib.hid ((Chg.of_below (gr_tr A0.out (gr_tr E1.out C1.out))).trans hc); have K3 := Lib.hid (K2.out.chg hc (fun k hk => .inl hk)); clear hw2 hat hc))
    refine ⟨K3.out, ?_⟩
    repeat (refine wpT_firm rfl (fun K hK => ?_); simp only [Keep]; go_simp; refine hK _ ?_; clear hK K)
    unfold wpT
    go_wp2
    go_ret2
    exact ⟨_, b, rfl, UU.out, by rw [HBN.out]; exact HM.out, ⟨v2, W2.out, AT.out⟩, C2.out⟩
  · go_wp2_with (go_at_call 37; go_loud (refine (Zero_w base p v l m m b _ (WR.out.below E1.out) hbs1.out (by have := HM.out; omega) HBE.out).mono ?_; rw [A1.out, A2.out]; rintro r w2 ⟨rfl, ⟨v2, hw2, hat⟩, hc⟩; have W2 := Lib.hid hw2; have AT := Lib.hid (at_old hat (Nat.le_trans A0.out.size E1.out.size)); have C2 := Lib.hid ((Chg.of_below (gr_tr A0.out E1.out)).trans hc); have K3 := Lib.hid (K1.out.chg hc (fun k hk => .inl hk)); clear hw2 hat hc))
    refine ⟨K3.out, ?_⟩
    repeat (refine wpT_firm rfl (fun K hK => ?_); simp only [Keep]; go_simp; refine hK _ ?_; clear hK K)
    refine wpT_chain rfl ?_
    go_wp2_with (refine make_law bytesOk rfl _ _ rfl w2.heap.size .i64 .i64 (m : Int) (m : Int) m rfl rfl rfl rfl (by have := HM.out; omega) (by have := HM.out; omega) (Nat.le_refl _) ?_; intro w1 hown hgrow; have U1 := Lib.hid (BytesV.of_own (l := b) (by rw [HBN.out, ← HBE.out, ← by8_made]; exact hown)); have NU := Lib.hid (NewV.of_own hown); have C1 := Lib.hid ((Below.refl w2.heap.size w2).grown hgrow (Nat.le_refl _) (by intro k hk; cases hk)); clear hgrow hown)
    have K4 := Lib.hid (K3.out.below C1.out)
    refine ⟨K4.out, ?_⟩
    repeat (refine wpT_firm rfl (fun K hK => ?_); simp only [Keep]; go_simp; refine hK _ ?_; clear hK K)
    unfold wpT
    go_wp2
    go_ret2
    exact ⟨_, b, rfl, U1.out, by rw [HBN.out]; exact HM.out, ⟨v2, W2.out.below C1.out, AT.out⟩, C2.out.trans (Chg.of_below C1.out)⟩
set_option maxHeartbeats 1600000 in
set_option maxRecDepth 100000 in
theorem add5 (w0 w : World) (base p : Nat) (v : Value) (l : List (BitVec 8)) (fs bv : Value) (fl : List WF) (bl : List (BitVec 8)) (x : BitVec 64) (n : Int) (kd : Int) (h : AddAt w0 w base p v l fs bv fl bl n) (hk : kd < 0 ∨ 4 < kd) :
    Calls Tryd.prog 35 #[.pointer (some ⟨p, 0, none⟩), .agg #[.int .i64 kd, .int .u64 (uv x), .int .i64 n, fs, bv]] w (AddOut w base p v l) := by
  have k0 : (kd == 0) = false := by rw [beq_eq_false_iff_ne]; omega
  have k1 : (kd == 1) = false := by rw [beq_eq_false_iff_ne]; omega
  have k2 : (kd == 2) = false := by rw [beq_eq_false_iff_ne]; omega
  have k3 : (kd == 3) = false := by rw [beq_eq_false_iff_ne]; omega
  have k4 : (kd == 4) = false := by rw [beq_eq_false_iff_ne]; omega
  clear hk
  obtain ⟨wr, hf, hb, hbw, hbase, hp, hbs, hfl, hbl, hn1, hn2, hl⟩ := h; have F := Lib.hid hf; have B := Lib.hid hb; obtain ⟨af, cf, rfl, -⟩ := hf; obtain ⟨ab, cb, rfl, -⟩ := hb; have hps : p < w.heap.size := (Array.getElem?_eq_some_iff.1 wr.blk).1; have WR := Lib.hid (wr.below (gr_alloc w (.cells #[.int .i64 kd, .int .u64 (uv x), .int .i64 n, .slice af fl.length cf, .slice ab bl.length cb] 78))); have D := Lib.hid (hbw.trans ((gr_alloc w (.cells #[.int .i64 kd, .int .u64 (uv x), .int .i64 n, .slice af fl.length cf, .slice ab bl.length cb] 78)).mono hbw.size)); have A0 := Lib.hid (gr_alloc w (.cells #[.int .i64 kd, .int .u64 (uv x), .int .i64 n, .slice af fl.length cf, .slice ab bl.length cb] 78)); have HNP := Lib.hid (show ¬ WrB p v w.heap.size by rintro (h | h); omega; have := (wr.own.lt _ h).2; omega); have HBASE := Lib.hid hbase; have HP := Lib.hid hp; have HBS := Lib.hid (Nat.le_trans hbs A0.out.size); have HFL := Lib.hid hfl; have HBL := Lib.hid hbl; have HN := Lib.hid hn1; have HN2 := Lib.hid hn2; have HL := Lib.hid hl; have HPS := Lib.hid hps; clear wr hbw hbase hp hbs hfl hbl hn1 hn2 hl hps
  go_enter Tryd.func35, Tryd.ntmps35
  go_wp2
  go_ret2
  exact ⟨_, [], rfl, BytesV.nil _, by simp, ⟨v, by rw [List.append_nil]; exact WR.out, .inl rfl⟩, Chg.of_below A0.out⟩
theorem add_act (w0 w : World) (base p : Nat) (v : Value) (l : List (BitVec 8)) (fs bv : Value) (fl : List WF) (bl : List (BitVec 8)) (x : BitVec 64) (n kd : Int) (h : AddAt w0 w base p v l fs bv fl bl n) :
    Calls Tryd.prog 35 #[.pointer (some ⟨p, 0, none⟩), .agg #[.int .i64 kd, .int .u64 (uv x), .int .i64 n, fs, bv]] w (AddOut w base p v l) := by
  by_cases h5 : kd < 0 ∨ 4 < kd
  · exact add5 w0 w base p v l fs bv fl bl x n kd h h5
  · have : kd = 0 ∨ kd = 1 ∨ kd = 2 ∨ kd = 3 ∨ kd = 4 := by omega
    rcases this with rfl | rfl | rfl | rfl | rfl
    · exact add0 w0 w base p v l fs bv fl bl x n h
    · exact add1 w0 w base p v l fs bv fl bl x n h
    · exact add2 w0 w base p v l fs bv fl bl x n h
    · exact add3 w0 w base p v l fs bv fl bl x n h
    · by_cases hn : n < 0
      · exact add4_neg w0 w base p v l fs bv fl bl x n h hn
      · obtain ⟨m, rfl⟩ : ∃ m : Nat, n = m := ⟨n.toNat, by omega⟩
        exact add4_ok w0 w base p v l fs bv fl bl x m h
end Go.Proofs.YteicmbapipnbjaaDoor
