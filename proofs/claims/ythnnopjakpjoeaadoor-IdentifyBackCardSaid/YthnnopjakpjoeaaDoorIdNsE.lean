/- identify.EncodeNamespace. -/
import Derived.Test.YthnnopjakpjoeaaDoorIdNs2
import Derived.Test.YthnnopjakpjoeaaDoorSelfEq
import Derived.Deep.MidRow
namespace Go.Proofs.YthnnopjakpjoeaaDoor
open Go.RowKit Idn
set_option linter.unusedVariables false
set_option linter.unusedSimpArgs false
namespace Idn
def gv (vs : List (BitVec 64)) (j : Nat) : BitVec 64 := vs.getD j 0#64
def fmtsN (vs : List (BitVec 64)) : BitVec 8 := (gv vs 4).setWidth 8
def fmtN (vs : List (BitVec 64)) : BitVec 8 := (gv vs 5).setWidth 8
def blM (vs : List (BitVec 64)) (i : Nat) : BitVec 16 := (gv vs (32 + 3 * i)).setWidth 16
def blS (vs : List (BitVec 64)) (i : Nat) : BitVec 8 := (gv vs (32 + 3 * i + 1)).setWidth 8
def blP (vs : List (BitVec 64)) (i : Nat) : BitVec 8 := (gv vs (32 + 3 * i + 2)).setWidth 8
def badBlk (vs : List (BitVec 64)) (i : Nat) : Bool := decide (3 < uv (blP vs i)) || (decide (uv (fmtsN vs) < (i : Int)) && !(uv (blM vs i) == 0 && (uv (blS vs i) == 0 && uv (blP vs i) == 0)))
def badHead (vs : List (BitVec 64)) : Bool := decide (15 < uv (fmtsN vs)) || decide (uv (fmtsN vs) < uv (fmtN vs) % 16)
/-- A namespace that can be encoded. -/
def okNs (vs : List (BitVec 64)) : Bool := !badHead vs && (List.range 16).all (fun i => !badBlk vs i)
theorem cell_ns {vs : List (BitVec 64)} (h : vs.length = 80) {j : Nat} {s : Nat × Kd × Nat} (hs : nsSpec[j]? = some s) : (nsC vs)[j]? = some (s.2.1.val (gv vs j)) := by
  have hj := (List.getElem?_eq_some_iff.1 hs).1
  rw [nsSpec_len] at hj
  have hv : vs[j]? = some (gv vs j) := by
    unfold gv; rw [List.getD_eq_getElem?_getD, List.getElem?_eq_getElem (by omega)]; rfl
  unfold nsC
  rw [List.getElem?_map, show (nsSpec.zip vs)[j]? = some (s, gv vs j) from List.getElem?_zip_eq_some.2 ⟨hs, hv⟩]; rfl
theorem spec_blk : ∀ k, k < 16 → nsSpec[32 + 3 * k]? = some (128 + 4 * k, .u16, 32 + 3 * k) ∧ nsSpec[32 + 3 * k + 1]? = some (130 + 4 * k, .u8, 32 + 3 * k + 1) ∧ nsSpec[32 + 3 * k + 2]? = some (131 + 4 * k, .u8, 32 + 3 * k + 2) := by decide +kernel
theorem cell_blk {vs : List (BitVec 64)} (h : vs.length = 80) (k : Nat) (hk : k < 16) :
    (nsC vs)[32 + 3 * k]? = some (.int .u16 (uv (blM vs k))) ∧ (nsC vs)[32 + 3 * k + 1]? = some (.int .u8 (uv (blS vs k))) ∧ (nsC vs)[32 + 3 * k + 2]? = some (.int .u8 (uv (blP vs k))) := by
  obtain ⟨h1, h2, h3⟩ := spec_blk k hk
  exact ⟨cell_ns h h1, cell_ns h h2, cell_ns h h3⟩
theorem okNs_no {vs : List (BitVec 64)} {i : Nat} (hi : i < 16) (h : badBlk vs i = true) : okNs vs = false := by
  unfold okNs
  rw [Bool.and_eq_false_iff]
  refine .inr ?_
  rw [List.all_eq_false]
  exact ⟨i, List.mem_range.2 hi, by rw [h]; simp⟩
theorem okNs_yes {vs : List (BitVec 64)} (hh : badHead vs = false) (h : ∀ i, i < 16 → badBlk vs i = false) : okNs vs = true := by
  unfold okNs
  rw [hh, Bool.and_eq_true]
  exact ⟨rfl, List.all_eq_true.2 fun i hi => by rw [h i (List.mem_range.1 hi)]; rfl⟩
end Idn
set_option maxHeartbeats 1600000 in
theorem blk_equalIn (a b c : Int) (w : World) : (Op.equalIn 10000 68 (.agg #[.int .u16 a, .int .u8 b, .int .u8 c]) (.agg #[.int .u16 0, .int .u8 0, .int .u8 0])).run Tryd.prog w = .ok (a == 0 && (b == 0 && c == 0)) w := by
  have hS : Tryd.prog.underlying 68 = some (.struct (Tryd.prog.fieldsOf 68)) := by kernel_rfl
  have hp : Tryd.prog.stoodInHeld 68 = false := by kernel_rfl
  have u2 := Tryd.underlying36
  have u4 := Tryd.underlying5
  rw [show (10000 : Nat) = 9999 + 1 from rfl, run_equalIn_agg w 9999 68 _ _ hS hp]
  simp only [Program.fieldsOf, Tryd.underlying68]
  go_simp
  by_cases h1 : a = 0 <;> by_cases h2 : b = 0 <;> by_cases h3 : c = 0 <;> simp [h1, h2, h3]
theorem blk_neq (a b c : Int) (w : World) : (binOp .neq 68 (.agg #[.int .u16 a, .int .u8 b, .int .u8 c]) (.agg #[.int .u16 0, .int .u8 0, .int .u8 0])).run Tryd.prog w = .ok (.bool (!(a == 0 && (b == 0 && c == 0)))) w := by
  rw [run_neq_struct, blk_equalIn]; rfl
/-- 'a[i]' of an array value of structs. -/
theorem wpList_index_part {ops : Array Oper} {rest : List Oper} {op : Oper} {a : Act} {w : World} {Q : Exit → Act → World → Prop} (hgd : op.guard = none) (T e : TypeId) (n c : Nat) (x i : Operand) (ho : op.op = .index T x i)
    (hu : Tryd.prog.underlying T = some (.array n e)) (hi : (Tryd.prog.info? e).isSome = true) (hc : Tryd.prog.cellsOf e = c) (hag : (match Tryd.prog.underlying e with | some (.struct _) | some (.array _ _) => true | _ => false) = true)
    (cs : Array Value) (hx : a.eval x = .agg cs) (k : Nat) (hk : k < n) (hik : a.eval i = .int .i64 k)
    (h : wpList Tryd.prog ops Q rest (a.put op.dst (.agg (cs.extract (k * c) (k * c + c)))) w) : wpList Tryd.prog ops Q (op :: rest) a w := by
  refine wpList_plain hgd fun _ hK => ?_
  obtain ⟨ti, hti⟩ := Option.isSome_iff_exists.1 hi
  have hp : (part e cs (k * c)).run Tryd.prog w = .ok (.agg (cs.extract (k * c) (k * c + c))) w := by
    cases hue : Tryd.prog.underlying e with
    | none => rw [hue] at hag; simp at hag
    | some d => cases d <;> (rw [hue] at hag; simp at hag) <;> simp [part, isAgg, run_underlying hue, run_sizeOf w hti, hc]
  have hr : (Instr.index T (.agg cs) (.int .i64 k)).run Tryd.prog w = .ok (.agg (cs.extract (k * c) (k * c + c))) w := by
    unfold Instr.index
    simp [asIntOf, run_underlying hu, run_sizeOf w hti, hc, hk, hp]
  unfold Oper.wp execOp
  simp only [ho, hx, hik, Sem.run_bind, Sem.run_pure, Result.andThen_ok, hr]
  exact hK _ _ h
def nsE (vs : List (BitVec 64)) : Int := if okNs vs then 0 else 2
def nsR (vs : List (BitVec 64)) : List (BitVec 8) := if okNs vs then nsB vs else []
set_option maxHeartbeats 6400000 in
set_option maxRecDepth 100000 in
theorem EncNs_at (vs : List (BitVec 64)) (E : Int) (B : List (BitVec 8)) (w : World) (hv : NsOk vs) (hE : nsE vs = E) (hB : nsR vs = B) :
    Calls Tryd.prog 33 #[.agg (nsC vs).toArray] w fun e w' => ∃ u, e = .returned (.tuple #[u, .int .i64 E]) ∧ BytesV w' u B ∧ Below w.heap.size w w' := by
  have HE := Lib.hid hE; have HB := Lib.hid hB
  clear hE hB
  obtain ⟨W, hW⟩ : ∃ W, W = w.alloc (.cells (nsC vs).toArray 71) := ⟨_, rfl⟩
  have BX := Lib.hid (show W.heap[w.heap.size]? = some (.cells (nsC vs).toArray 71 (0, 0)) by rw [hW]; exact heap_alloc_new w _)
  have D := Lib.hid (show Below w.heap.size w W by rw [hW]; exact gr_alloc w _)
  have HS := Lib.hid (show w.heap.size < W.heap.size by rw [hW]; simp)
  have HW := Lib.hid hW
  have HV := Lib.hid hv
  have FC := Lib.hid (ns_fits hv)
  have CB := Lib.hid (fun k hk => cell_blk hv.1 k hk)
  have C4 := Lib.hid (cell_ns hv.1 (j := 4) (s := (25, .u8, 4)) rfl)
  have C5 := Lib.hid (cell_ns hv.1 (j := 5) (s := (26, .u8, 5)) rfl)
  have HL := Lib.hid (nsC_len hv.1)
  obtain ⟨cl, hcl⟩ : ∃ cl, nsC vs = cl := ⟨_, rfl⟩
  rw [hcl] at HW BX FC CB C4 C5 HL ⊢
  have k4 := (cell_of_row _ _ 4 _ _ _ BX.out).trans (show cl.toArray[4]? = some (.int .u8 (uv (fmtsN vs))) by rw [List.getElem?_toArray]; exact C4.out)
  have k5 := (cell_of_row _ _ 5 _ _ _ BX.out).trans (show cl.toArray[5]? = some (.int .u8 (uv (fmtN vs))) by rw [List.getElem?_toArray]; exact C5.out)
  obtain ⟨f, hf⟩ : ∃ f, fmtsN vs = f := ⟨_, rfl⟩
  obtain ⟨m, hm⟩ : ∃ m, fmtN vs = m := ⟨_, rfl⟩
  rw [hf] at k4; rw [hm] at k5
  have HF := Lib.hid hf
  have hbh : badHead vs = (decide (15 < uv f) || decide (uv f < uv m % 16)) := by unfold badHead; rw [hf, hm]
  have HBH := Lib.hid hbh
  have htm : (uv m).tmod 16 = uv m % 16 := Int.tmod_eq_emod_of_nonneg (uv_nonneg _)
  have HTM := Lib.hid htm
  clear hW hv hcl hf hm hbh
  obtain ⟨t1, h1⟩ : ∃ t, decide (15 < uv f) = t := ⟨_, rfl⟩
  obtain ⟨t2, h2⟩ : ∃ t, decide (uv f < (uv m).tmod 16) = t := ⟨_, rfl⟩
  have HB2 := Lib.hid (show badHead vs = (t1 || t2) by rw [HBH.out, ← h1, ← h2, htm])
  clear htm
  have bad : badHead vs = true → E = 2 ∧ B = [] := fun h => by
    have ho : okNs vs = false := by unfold okNs; rw [h]; rfl
    refine ⟨by rw [← HE.out]; unfold nsE; rw [ho]; rfl, by rw [← HB.out]; unfold nsR; rw [ho]; rfl⟩
  have BAD := Lib.hid bad
  clear bad
  cases t1
  · cases t2
    · go_enter Tryd.func33, Tryd.ntmps33
      go_upto_region 1 with (fail)
      rw [← HW.out]
      go_upto_region 3 with (fail)
      have hrng : W.rangeAt w.heap.size 32 (cl.drop 32) := fun j v hj => by
        rw [List.getElem?_drop] at hj
        exact (cell_of_row _ _ (32 + j) _ _ _ BX.out).trans (by rw [List.getElem?_toArray]; exact hj)
      have RNG := Lib.hid hrng
      have HL48 := Lib.hid (show (cl.drop 32).length = 48 by rw [List.length_drop, HL.out])
      clear hrng
      have HBH2 := Lib.hid (show badHead vs = false from HB2.out)
      go_upto_region 4 with (refine wpList_load_mid rfl 69 (.tmp 18) rfl w.heap.size 32 rfl (cl.drop 32) _ RNG.out Tryd.underlying69 rfl (by rw [HL48.out]; kernel_rfl) ?_)
      clear k4 k5 h1 h2
      go_wp2
      go_loopw [20] (fun i wr => ∃ k : Nat, k ≤ 16 ∧ i = .int .i64 k ∧ Hid (∀ j, j < k → badBlk vs j = false) ∧ Below W.heap.size W wr) (fun i _ => 16 - (intOf i).toNat)
      case atStart => exact ⟨0, by omega, rfl, fun j hj => absurd hj (by omega), Below.refl _ _⟩
      case round =>
        obtain ⟨k, hk, rfl, OKK, hb⟩ := hrel
        have BW := Lib.hid hb; clear hb
        have BXr := Lib.hid (blk_below BX.out BW.out)
        by_cases hlt : k < 16
        · obtain ⟨g1, g2, g3⟩ := CB.out k hlt
          have hbad : badBlk vs k = (decide (3 < uv (blP vs k)) || (decide (uv f < (k : Int)) && !(uv (blM vs k) == 0 && (uv (blS vs k) == 0 && uv (blP vs k) == 0)))) := by unfold badBlk; rw [HF.out]
          obtain ⟨mb, hmb⟩ : ∃ x, blM vs k = x := ⟨_, rfl⟩
          obtain ⟨sb, hsb⟩ : ∃ x, blS vs k = x := ⟨_, rfl⟩
          obtain ⟨pb, hpb⟩ : ∃ x, blP vs k = x := ⟨_, rfl⟩
          rw [hmb] at g1 hbad; rw [hsb] at g2 hbad; rw [hpb] at g3 hbad
          have hex : (cl.drop 32).toArray.extract (k * 3) (k * 3 + 3) = #[.int .u16 (uv mb), .int .u8 (uv sb), .int .u8 (uv pb)] := by
            apply Array.ext'
            rw [Array.toList_extract]
            apply List.ext_getElem?
            intro i
            simp only [List.extract_eq_take_drop]
            by_cases hi : i < 3
            · rw [List.getElem?_take_of_lt (by omega), List.getElem?_drop, List.getElem?_drop]
              have hi3 : i = 0 ∨ i = 1 ∨ i = 2 := by omega
              rcases hi3 with rfl | rfl | rfl
              · rw [show 32 + (k * 3 + 0) = 32 + 3 * k by omega, g1]; rfl
              · rw [show 32 + (k * 3 + 1) = 32 + 3 * k + 1 by omega, g2]; rfl
              · rw [show 32 + (k * 3 + 2) = 32 + 3 * k + 2 by omega, g3]; rfl
            · rw [List.getElem?_take_eq_none (by omega), List.getElem?_eq_none (by simp; omega)]
          have HEX := Lib.hid hex
          have hneq := blk_neq (uv mb) (uv sb) (uv pb)
          obtain ⟨q1, hq1⟩ : ∃ q, decide (3 < uv pb) = q := ⟨_, rfl⟩
          obtain ⟨q2, hq2⟩ : ∃ q, decide (uv f < (k : Int)) = q := ⟨_, rfl⟩
          obtain ⟨z, hz⟩ : ∃ z, (uv mb == 0 && (uv sb == 0 && uv pb == 0)) = z := ⟨_, rfl⟩
          rw [hz] at hneq
          rw [hq1, hq2, hz] at hbad
          have HBAD := Lib.hid hbad
          have HLT := Lib.hid hlt
          have k4r := (cell_of_row _ _ 4 _ _ _ BXr.out).trans (show cl.toArray[4]? = some (.int .u8 (uv f)) by rw [List.getElem?_toArray, ← HF.out]; exact C4.out)
          clear g1 g2 g3 hmb hsb hpb hex hbad hz
          have isbad : badBlk vs k = true → E = 2 ∧ B = [] := fun h => by
            have ho := okNs_no HLT.out h
            refine ⟨by rw [← HE.out]; unfold nsE; rw [ho]; rfl, by rw [← HB.out]; unfold nsR; rw [ho]; rfl⟩
          have ISB := Lib.hid isbad
          clear isbad
          go_upto_region 6 with (refine wpList_index_part rfl 69 68 16 3 (.tmp 19) (.tmp 20) rfl Tryd.underlying69 (by kernel_rfl) (by kernel_rfl) (by kernel_rfl) _ rfl k HLT.out rfl ?_; rw [HEX.out])
          have hw64 : wrap64 (uv f) = uv f := IntWalk.wrap64_in _ (by have := f.isLt; unfold uv; omega)
          have k4a : (wr.alloc (.cells #[.int .u16 (uv mb), .int .u8 (uv sb), .int .u8 (uv pb)] 68)).cell? ⟨w.heap.size, 4, none⟩ = some (.int .u8 (uv f)) := ((gr_alloc wr _).cell (p := ⟨w.heap.size, 4, none⟩) (block_lt_of_cell k4r)).trans k4r
          cases q1
          · cases q2
            · have OKN := Lib.hid (show ∀ j, j < k + 1 → badBlk vs j = false from fun j hj => by
                by_cases e : j = k
                · subst e; exact HBAD.out
                · exact OKK.out j (by omega))
              go_wp2
              go_roundw
              case rel => exact ⟨k + 1, by have := HLT.out; omega, by go_num, OKN, gr_tr BW.out (gr_alloc wr _)⟩
              case measure => have := HLT.out; simp [intOf]; omega
            · cases z
              · obtain ⟨e1, e2⟩ := ISB.out HBAD.out
                go_wp2
                go_ret2
                exact ⟨_, by first | rfl | (rw [e1]; rfl), by first | exact BytesV.nil _ | (rw [e2]; exact BytesV.nil _), gr_tr D.out (gr_tr BW.out (gr_alloc wr _))⟩
              · have OKN := Lib.hid (show ∀ j, j < k + 1 → badBlk vs j = false from fun j hj => by
                  by_cases e : j = k
                  · subst e; exact HBAD.out
                  · exact OKK.out j (by omega))
                go_wp2
                go_roundw
                case rel => exact ⟨k + 1, by have := HLT.out; omega, by go_num, OKN, gr_tr BW.out (gr_alloc wr _)⟩
                case measure => have := HLT.out; simp [intOf]; omega
          · obtain ⟨e1, e2⟩ := ISB.out HBAD.out
            go_wp2
            go_ret2
            exact ⟨_, by first | rfl | (rw [e1]; rfl), by first | exact BytesV.nil _ | (rw [e2]; exact BytesV.nil _), gr_tr D.out (gr_tr BW.out (gr_alloc wr _))⟩
        · obtain rfl : k = 16 := by omega
          have ho : okNs vs = true := okNs_yes HBH2.out OKK.out
          have hE0 : E = 0 := by rw [← HE.out]; unfold nsE; rw [ho]; rfl
          have hB0 : B = nsB vs := by rw [← HB.out]; unfold nsR; rw [ho]; rfl
          subst hE0
          obtain ⟨L0, hL0⟩ : ∃ L, Lay.lays zeros (nsFs vs) = L := ⟨_, rfl⟩
          have HL0 := Lib.hid hL0
          have hBL : B = L0 := by rw [hB0, ← hL0]; rfl
          have HBL := Lib.hid hBL
          have DR := Lib.hid (gr_tr D.out BW.out)
          have SR := Lib.hid (Nat.lt_of_lt_of_le HS.out BW.out.size)
          clear ho hB0 hL0 hBL BAD HE HB
          go_wp2_with (first
            | (refine make_law bytesOk rfl _ _ rfl wr.heap.size .i64 .i64 4096 4096 4096 rfl rfl rfl rfl (by omega) (by omega) (Nat.le_refl _) ?_; intro w2 hown hgrow; have O := Lib.hid (show Own4 w2 wr.heap.size wr.heap.size 4096 zeros by have h := hown; rw [by8_made] at h; exact h); have D2 := Lib.hid ((Below.refl wr.heap.size wr).grown hgrow (Nat.le_refl _) (by intro k hk; cases hk)); have BX2 := Lib.hid (blk_below BXr.out D2.out); have DD := Lib.hid (gr_tr DR.out D2.out); clear hgrow hown)
            | (go_at_call 87; go_loud (refine (namespace_any w.heap.size _).mono ?_; rintro r w3 ⟨pv, ps, rfl, hsv, hkey, hps, hnv, hw⟩; have SV := Lib.hid hsv; have KEY := Lib.hid hkey; have PS := Lib.hid hps; have NV := Lib.hid hnv; have O3 := Lib.hid (O.out.below hw); have BX3 := Lib.hid (blk_below BX2.out hw); have D3 := Lib.hid (gr_tr DD.out hw); clear hsv hkey hps hnv hw))
            | (go_at_call 84; go_loud (have hlen : ps.length = vs.length := (by have := congrArg List.length KEY.out; rw [List.length_map, nsSpec_len] at this; rw [this]; exact HV.out.1.symm); refine (store_any wr.heap.size 4096 wr.heap.size zeros pv (ps.zip vs) _ O3.out (SV.out.zip vs hlen) (fun g o n c e h => by have := NV.out g o n c e; have := O.out.lt.2; omega) (zip_has KEY.out PS.out BX3.out FC.out (by have := SR.out; omega) O.out.lt.2)).mono ?_; rw [zip_key ps nsSpec vs KEY.out]; rintro r w4 ⟨rfl, ho, hc⟩; have O4 := Lib.hid (show Own4 w4 wr.heap.size wr.heap.size 4096 L0 by rw [← HL0.out]; exact ho); have D4 := Lib.hid (hc.fresh D3.out (fun k hk => by have := SR.out; omega)); clear ho hc hlen)))
          go_ret2
          exact ⟨_, rfl, by rw [HBL.out]; exact O4.out.bytes, D4.out⟩
    · obtain ⟨e1, e2⟩ := BAD.out HB2.out
      go_enter Tryd.func33, Tryd.ntmps33
      go_upto_region 1 with (fail)
      rw [← HW.out]
      go_wp2
      go_ret2
      exact ⟨_, rfl, BytesV.nil _, D.out⟩
  · obtain ⟨e1, e2⟩ := BAD.out HB2.out
    go_enter Tryd.func33, Tryd.ntmps33
    go_upto_region 1 with (fail)
    rw [← HW.out]
    go_wp2
    go_ret2
    exact ⟨_, rfl, BytesV.nil _, D.out⟩
end Go.Proofs.YthnnopjakpjoeaaDoor
