/- Fields are read at their places (identify.load), and the reference's get and check. -/
import Derived.Test.YthnnopjakpjoeaaDoorIdB
import Derived.Test.YthnnopjakpjoeaaDoorSpoil
import Derived.Test.YthnnopjakpjoeaaDoorWireMath3
namespace Go.Proofs.YthnnopjakpjoeaaDoor
open Go.RowKit Idn
set_option linter.unusedVariables false
set_option linter.unusedSimpArgs false
namespace Idn
/-- The bytes at a place. -/
def cutL (l : List (BitVec 8)) (a n : Nat) : List (BitVec 8) := (l.drop a).take n
theorem cutL_len {l : List (BitVec 8)} {a n : Nat} (h : a + n ≤ l.length) : (cutL l a n).length = n := by
  unfold cutL; rw [List.length_take, List.length_drop]; omega
/-- The number that is read at a place. -/
def rdv (l : List (BitVec 8)) (q : Pl) : BitVec 64 := Wire.getV (cutL l q.at' q.k.size)
/-- A block's cells when its fields have been read. -/
def readC (l : List (BitVec 8)) (C : Array Value) (ps : List Pl) : Array Value := ps.foldl (fun c q => c.setIfInBounds q.o (q.k.val (rdv l q))) C
theorem readC_snoc (l : List (BitVec 8)) (C : Array Value) (ps : List Pl) (q : Pl) : readC l C (ps ++ [q]) = (readC l C ps).setIfInBounds q.o (q.k.val (rdv l q)) := by unfold readC; rw [List.foldl_append]; rfl
theorem readC_size (l : List (BitVec 8)) (C : Array Value) (ps : List Pl) : (readC l C ps).size = C.size := by
  unfold readC
  induction ps generalizing C with
  | nil => rfl
  | cons p ps ih => rw [List.foldl_cons, ih, Array.size_setIfInBounds]
/-- A place that can be read into block X of n cells. -/
def Fit (w : World) (X n : Nat) (q : Pl) : Prop := q.ok w ∧ q.X = X ∧ q.box ≠ X ∧ q.o < n ∧ q.at' + q.k.size ≤ 4096
theorem Fit.chg {w w' : World} {X n : Nat} {q : Pl} (h : Fit w X n q) (c : Chg (fun b => b = X) w w') : Fit w' X n q := by
  obtain ⟨h1, h2, h3, h4, h5⟩ := h
  exact ⟨h1.chg c h3, h2, h3, h4, h5⟩
end Idn
theorem BytesV.cutN {w : World} {n c : Nat} {l : List (BitVec 8)} {g o : Nat} (h : BytesV w (.slice (some ⟨g, o, none⟩) n c) l) (p k : Nat) (hk : p + k ≤ l.length) : BytesV w (.slice (some ⟨g, o + p, none⟩) k (c - p)) (cutL l p k) := by
  obtain ⟨a', c', e, h0, h1, h2, h3⟩ := h
  injection e with e1 e2 e3
  subst e1 e3
  have hl : (cutL l p k).length = k := cutL_len hk
  refine ⟨some ⟨g, o + p, none⟩, c - p, by rw [hl], (fun ha => by cases ha), by rw [hl]; omega, by omega, ?_⟩
  have := (h3.drop p).take k
  unfold by8 at this ⊢
  unfold cutL
  rw [List.map_take, List.map_drop]; exact this
set_option maxRecDepth 20000 in
theorem check_any (v : Value) (l : List (BitVec 8)) (e : Int) (w : World) (hv : BytesV w v l) (he : (if l.length < 4096 then (4 : Int) else if 4096 < l.length then 5 else 0) = e) :
    Calls Tryd.prog 77 #[v] w fun r w' => r = .returned (.int .i64 e) ∧ w = w' := by
  subst he
  obtain ⟨a, c, rfl, h0, h1, h2, h3⟩ := hv
  have hm : l.length ≤ 9223372036854775807 := by omega
  clear h0 h1 h2 h3
  by_cases p1 : l.length < 4096
  · rw [if_pos p1]
    have d1 : decide ((l.length : Int) < 4096) = true := decide_eq_true (by omega); clear p1
    go_enter Tryd.func77, Tryd.ntmps77
    go_wp2
    go_ret
    exact ⟨rfl, rfl⟩
  · rw [if_neg p1]
    by_cases p2 : 4096 < l.length
    · rw [if_pos p2]
      have d1 : decide ((l.length : Int) < 4096) = false := decide_eq_false (by omega); have d2 : decide (4096 < (l.length : Int)) = true := decide_eq_true (by omega); clear p1 p2
      go_enter Tryd.func77, Tryd.ntmps77
      go_wp2
      go_ret
      exact ⟨rfl, rfl⟩
    · rw [if_neg p2]
      have d1 : decide ((l.length : Int) < 4096) = false := decide_eq_false (by omega); have d2 : decide (4096 < (l.length : Int)) = false := decide_eq_false (by omega); clear p1 p2
      go_enter Tryd.func77, Tryd.ntmps77
      go_wp2
      go_ret
      exact ⟨rfl, rfl⟩
theorem getV_cut {l : List (BitVec 8)} {a n : Nat} (h : a + n ≤ l.length) (h1 : 1 ≤ n) (h8 : n ≤ 8) : Wire.getV (cutL l a n) = Wire.get (cutL l a n) ∧ Wire.getE (cutL l a n) = 0 := by
  have hl := cutL_len h
  have : Wire.getE (cutL l a n) = 0 := by unfold Wire.getE; rw [hl, if_neg (by omega)]
  exact ⟨by unfold Wire.getV; rw [if_pos this], this⟩
theorem get_more (l : List (BitVec 8)) (a n q : Nat) (x : BitVec 8) (hq : q < n) (h : l[a + q]? = some x) : Wire.get ((cutL l a n).drop q) = Wire.get ((cutL l a n).drop (q + 1)) <<< 8 ||| x.setWidth 64 := by
  refine Wire.get_drop _ q x ?_
  unfold cutL
  rw [List.getElem?_take_of_lt hq, List.getElem?_drop, h]
set_option maxRecDepth 20000 in
theorem rget_at (g o N c : Nat) (l : List (BitVec 8)) (a n : Nat) (x : BitVec 64) (w : World) (hv : BytesV w (.slice (some ⟨g, o, none⟩) N c) l) (ha : a + n ≤ l.length) (h1 : 1 ≤ n) (h8 : n ≤ 8) (hx : Wire.getV (cutL l a n) = x) :
    Calls Tryd.prog 78 #[.slice (some ⟨g, o, none⟩) N c, .int .i64 a, .int .i64 n] w fun e w' => e = .returned (.int .u64 (uv x)) ∧ w = w' := by
  rw [(getV_cut ha h1 h8).1] at hx
  obtain ⟨a', c', e, -, e1, e2, hrow⟩ := hv
  injection e with e3 e4 e5
  subst e3 e4 e5
  have hm : a + n ≤ 9223372036854775807 := by omega
  have hm2 : (l.length : Int) ≤ 9223372036854775807 := by omega
  have ROW := Lib.hid hrow; have HX := Lib.hid hx; have HA := Lib.hid ha
  clear hrow hx ha e1 e2
  go_enter Tryd.func78, Tryd.ntmps78
  go_wp2
  go_loop [7, 8] (fun s i => ∃ j : Nat, j ≤ n ∧ i = .int .i64 ((j : Int) - 1) ∧ s = .int .u64 (uv (Wire.get ((cutL l a n).drop j)))) (fun _ i => (intOf i + 1).toNat)
  case atStart => exact ⟨n, by omega, rfl, by rw [List.drop_of_length_le (by rw [cutL_len HA.out]; omega)]; rfl⟩
  case round =>
    obtain ⟨j, hj, rfl, rfl⟩ := hrel
    cases j with
    | zero =>
      have e : ((0 : Nat) : Int) - 1 = -1 := rfl
      rw [e, List.drop_zero, HX.out]
      go_wp2
      go_ret
      exact ⟨rfl, rfl⟩
    | succ q =>
      have e : ((q + 1 : Nat) : Int) - 1 = (q : Int) := by omega
      rw [e]
      clear e
      have hl := HA.out
      have hql : a + q < l.length := by omega
      clear hl
      obtain ⟨y, hy⟩ : ∃ y, l[a + q]? = some y := ⟨l[a + q], List.getElem?_eq_getElem hql⟩
      obtain ⟨b, o', e0, hcell⟩ := ROW.out.at (i := a + q) (v := .int .u8 (uv y)) (by rw [by8_get, hy]; rfl)
      cases e0
      have HS := Lib.hid (get_more l a n q y (by omega) hy)
      have HM := Lib.hid (Wire.mul_add (Wire.get ((cutL l a n).drop (q + 1))) y)
      clear hy
      go_wp2
      go_round
      case rel => exact ⟨q, by omega, by go_num, by rw [HS.out, ← HM.out]⟩
      case measure => simp [intOf]
/-- 'b[p:q]'. -/
theorem run_cutL (g o n c p : Nat) (q : Int) (hq : (p : Int) ≤ q) (hqc : q ≤ c) (hpc : p < c) (hc : c ≤ 9223372036854775807) (w' : World) :
    (Instr.slice 22 (.slice (some ⟨g, o, none⟩) n c) (some (.int .i64 p)) (some (.int .i64 q)) none).run Tryd.prog w' = .ok (.slice (some ⟨g, o + p, none⟩) (q - p).toNat (c - p)) w' := by
  have he : Tryd.prog.elem 22 = 5 := by simp [Program.elem, Tryd.underlying22]
  have ht' : Tryd.prog.underlying 22 = some (.slice (Tryd.prog.elem 22)) := by rw [he]; exact Tryd.underlying22
  have hz : (sizeOf (Tryd.prog.elem 22)).run Tryd.prog w' = .ok 1 w' := by
    rw [he]
    obtain ⟨i, hi, hi'⟩ := Option.map_eq_some_iff.1 bszU
    simp [sizeOf, typeInfo, hi, hi']
  rw [run_slice_lh w' 22 (some ⟨g, o, none⟩) n c ht' .i64 .i64 p q (by omega) hq hqc, hz]
  simp only [Result.andThen, sliced, Option.map_some, Nat.mul_one, Addr.add_lit, Int.toNat_natCast]
  rw [if_neg (by omega), show q.toNat - p = (q - p).toNat by omega]
set_option maxHeartbeats 1600000 in
set_option maxRecDepth 20000 in
theorem load_any (X : Nat) (T : TypeId) (C : Array Value) (bv pv : Value) (l : List (BitVec 8)) (ps : List Pl) (w : World)
    (hb : BytesV w bv l) (hl : l.length = 4096) (hoffb : Off (fun b => b = X) bv) (hp : SliceV w Pl.cells pv ps) (hoffp : Off (fun b => b = X) pv)
    (hx : w.heap[X]? = some (.cells C T (0, 0))) (hps : ∀ q ∈ ps, Fit w X C.size q) :
    Calls Tryd.prog 73 #[bv, pv] w fun e w' => e = .returned (.tuple #[]) ∧ w'.heap[X]? = some (.cells (readC l C ps) T (0, 0)) ∧ Chg (fun b => b = X) w w' := by
  have hm : ps.length ≤ 9223372036854775807 := by obtain ⟨_, c, _, _, h1, h2, _⟩ := hp; omega
  obtain ⟨g, o, c, rfl⟩ := hb.shapeAt (by omega)
  have hcap : l.length ≤ c ∧ c ≤ 9223372036854775807 := by obtain ⟨_, _, e, _, h1, h2, _⟩ := hb; injection e with _ _ e; rw [e]; exact ⟨h1, h2⟩
  obtain ⟨hc1, hc2⟩ := hcap
  obtain ⟨pa, pc, rfl, -, -, -, -⟩ := id hp
  have BV := Lib.hid hb; have P := Lib.hid hp; have OFFB := Lib.hid hoffb; have OFFP := Lib.hid hoffp; have PS := Lib.hid hps; have HX := Lib.hid hx; have HL := Lib.hid hl
  clear hb hp hoffb hoffp hps hx hl
  go_enter Tryd.func73, Tryd.ntmps73
  go_wp2
  go_loopw [10] (fun i wr => ∃ k : Nat, k ≤ ps.length ∧ i = .int .i64 k ∧ wr.heap[X]? = some (.cells (readC l C (ps.take k)) T (0, 0)) ∧ Chg (fun b => b = X) w wr) (fun i _ => ps.length - (intOf i).toNat)
  case atStart => exact ⟨0, by omega, rfl, HX.out, Chg.refl _ _⟩
  case round =>
    obtain ⟨k, hk, rfl, ho, hc⟩ := hrel
    have OW := Lib.hid ho; have CH := Lib.hid hc; clear ho hc
    by_cases hlt : k < ps.length
    · obtain ⟨p, hx⟩ : ∃ q, ps[k]? = some q := ⟨ps[k], List.getElem?_eq_getElem hlt⟩
      have FIT := Lib.hid ((PS.out _ (List.mem_of_getElem? hx)).chg CH.out)
      have hta : readC l C (ps.take (k + 1)) = (readC l C (ps.take k)).setIfInBounds p.o (p.k.val (rdv l p)) := by
        obtain ⟨h1, h2⟩ := List.getElem?_eq_some_iff.1 hx
        rw [List.take_succ_eq_append_getElem h1, h2, readC_snoc]
      have HTA := Lib.hid hta
      obtain ⟨pa', pc', e0, -, -, -, hrow⟩ := P.out.chg CH.out OFFP.out
      injection e0 with e1 e2 e3
      subst e1 e3
      clear e2
      have f0 := flat_get Pl.cells_len ps k 0 _ hx (by decide)
      have f1 := flat_get Pl.cells_len ps k 1 _ hx (by decide)
      have f2 := flat_get Pl.cells_len ps k 2 _ hx (by decide)
      have f3 := flat_get Pl.cells_len ps k 3 _ hx (by decide)
      obtain ⟨pb, po, rfl, c0⟩ := hrow.at (i := k * 4) (v := .int .i64 p.at') f0
      obtain ⟨b', o', ee, c1⟩ := hrow.at (i := k * 4 + 1) (v := .int .i64 (p.k.size : Nat)) f1
      cases ee
      obtain ⟨b', o', ee, c2⟩ := hrow.at (i := k * 4 + 2) (v := .func (.func p.k.getF) #[] #[.pointer (some ⟨p.box, 0, none⟩)]) f2
      cases ee
      obtain ⟨b', o', ee, c3⟩ := hrow.at (i := k * 4 + 3) (v := .func (.func p.k.setF) #[] #[.pointer (some ⟨p.box, 0, none⟩)]) f3
      cases ee
      rw [← Nat.add_assoc] at c1 c2 c3
      clear hx hta hrow f0 f1 f2 f3
      go_upto_region 3 with (refine wpList_store_new rfl 224 (.tmp 5) (.tmp 13) rfl (Pl.cells p).toArray 224 _ rfl rfl (by kernel_rfl) rfl (Pl.cells_one _) ?_; intro w2 hh hb; have HH := Lib.hid hh; have HB := Lib.hid hb; clear hh hb)
      obtain ⟨h1, h2, h3, h4, h5⟩ := FIT.out
      have hsz := p.k.size_pos
      have HV := Lib.hid (getV_cut (l := l) (by rw [HL.out]; exact h5) hsz.1 hsz.2).2
      have BV2 := Lib.hid ((BV.out.chg CH.out OFFB.out).below HB.out)
      have H1 := Lib.hid (h1.below HB.out)
      have HX2 : w2.heap[X]? = some (.cells (readC l C (ps.take k)) T (0, 0)) := blk_below OW.out HB.out
      have hr := run_cutL g o l.length c p.at' ((p.at' : Int) + (p.k.size : Nat)) (by omega) (by have := HL.out; omega) (by have := HL.out; omega) hc2
      rw [show ((p.at' : Int) + (p.k.size : Nat) - p.at').toNat = p.k.size by omega] at hr
      have BC := Lib.hid (BV2.out.cutN p.at' p.k.size (by rw [HL.out]; exact h5))
      have k0 := (cell_of_row w2 wr.heap.size 0 _ _ _ HH.out).trans (rfl : _ = some (Value.int .i64 p.at'))
      have k1 := (cell_of_row w2 wr.heap.size 1 _ _ _ HH.out).trans (rfl : _ = some (Value.int .i64 (p.k.size : Nat)))
      have k3 := (cell_of_row w2 wr.heap.size 3 _ _ _ HH.out).trans (rfl : _ = some (Value.func (.func p.k.setF) #[] #[.pointer (some ⟨p.box, 0, none⟩)]))
      have hb1 : (p.at' : Int) + (p.k.size : Nat) ≤ 4096 := by omega
      clear c0 c1 c2 c3
      have HSZ := Lib.hid hsz; have H2 := Lib.hid h2; have H4 := Lib.hid h4
      clear h1 h2 h3 h4 h5 hsz
      have SET := Lib.hid (fun (W : World) (old : Value) (h1 : p.ok W) (h2 : W.cell? ⟨p.X, p.o, none⟩ = some old) (h3 : W.frozen? ⟨p.X, p.o, none⟩ = false) => set_any p (rdv l p) old W h1 h2 h3)
      go_upto_region 4 with (go_at_call 129; go_loud (refine (Get_at _ _ (rdv l p) 0 _ BC.out rfl HV.out).mono ?_; rintro r w3 ⟨rfl, rfl⟩))
      have hsz2 : (readC l C (ps.take k)).size = C.size := readC_size _ _ _
      obtain ⟨old, hold⟩ : ∃ old, (readC l C (ps.take k))[p.o]? = some old := ⟨_, Array.getElem?_eq_getElem (by rw [hsz2]; exact H4.out)⟩
      have e2 := H2.out
      have OC := Lib.hid (show w2.cell? ⟨p.X, p.o, none⟩ = some old by rw [e2]; exact (cell_of_row w2 X p.o _ _ _ HX2).trans hold)
      have OF := Lib.hid (show w2.frozen? ⟨p.X, p.o, none⟩ = false by rw [e2]; exact frozen_of_row w2 X p.o _ _ HX2)
      have HX3 := Lib.hid HX2
      clear hsz2 hold HX2 e2 hr BC k0 k1 hb1
      obtain ⟨v, hv⟩ : ∃ v, rdv l p = v := ⟨_, rfl⟩
      rw [hv] at SET HTA ⊢
      clear hv
      obtain ⟨pat, pk, pX, pof, pbox⟩ := p
      obtain rfl : pX = X := H2.out
      cases pk
      all_goals
        dsimp only [Kd.setF] at k3
        go_wp2_with ((first | go_at_call 166 | go_at_call 164 | go_at_call 161 | go_at_call 177 | go_at_call 179); go_loud (refine (SET.out _ _ H1.out OC.out OF.out).mono ?_; rintro r w3 ⟨rfl, hw3⟩; have W3 := Lib.hid hw3; clear hw3))
        go_roundw
        case rel =>
          refine ⟨k + 1, by omega, by go_num, ?_, ?_⟩
          · rw [HTA.out, ← W3.out]; exact heap_setCell_same w2 pX pof _ _ _ HX3.out
          · rw [← W3.out]; exact (CH.out.then_below HB.out).trans (Chg.setCell (B := fun b => b = pX) (p := ⟨pX, pof, none⟩) _ rfl _)
        case measure => simp [intOf]; omega
    · obtain rfl : k = ps.length := by omega
      have ho := OW.out
      rw [List.take_length] at ho
      have OO := Lib.hid ho
      clear ho hlt
      go_wp2
      go_end0
      exact ⟨rfl, OO.out, CH.out⟩
end Go.Proofs.YthnnopjakpjoeaaDoor
