/- Fields are stored at their places (identify.store). -/
import Derived.Test.YthnnopjakpjoeaaDoorIdA
import Derived.Test.YthnnopjakpjoeaaDoorCopyIn
import Derived.Test.YthnnopjakpjoeaaDoorPlan2
import Derived.Test.YthnnopjakpjoeaaDoorGuarded
namespace Go.Proofs.YthnnopjakpjoeaaDoor
open Go.RowKit Idn
set_option linter.unusedVariables false
set_option linter.unusedSimpArgs false
theorem SliceV.chg {α : Type} {f : α → List Value} {B : Nat → Prop} {a b : World} {v : Value} {xs : List α} (h : SliceV a f v xs) (k : Chg B a b) (hn : Off B v) : SliceV b f v xs := by
  obtain ⟨ad, c, rfl, h0, h1, h2, h3⟩ := h
  refine ⟨ad, c, rfl, h0, h1, h2, ?_⟩
  rcases h3 with h | ⟨g, o, rfl, h⟩
  · exact .inl h
  · refine .inr ⟨g, o, rfl, fun i hi => ?_⟩
    rw [List.getElem?_eq_getElem hi]
    exact k.cell ((h i hi).trans (List.getElem?_eq_getElem hi)) (hn g o _ _ rfl)
theorem Chg.grown {B : Nat → Prop} {w a b : World} (h : Chg B w a) {row : Option Nat} (hg : a.grownBy b row) (hr : ∀ k, row = some k → B k ∨ w.heap.size ≤ k) : Chg B w b :=
  ⟨hg.os.trans h.os, hg.tape.trans h.tape, hg.output.trans h.output, Nat.le_trans h.size hg.size, fun k hk hn => (hg.block k (Nat.lt_of_lt_of_le hk h.size) (fun e => by rcases hr k e.symm with h | h; exact hn h; omega)).trans (h.block k hk hn)⟩
theorem Chg.then_below {B : Nat → Prop} {w a b : World} (h : Chg B w a) (k : Below a.heap.size a b) : Chg B w b := h.trans (Chg.of_below k)
namespace Idn
def plB (q : Pl × BitVec 64) : Nat × List (BitVec 8) := (q.1.at', Wire.le q.2 q.1.k.size)
def plC (q : Pl × BitVec 64) : List Value := q.1.cells
theorem plC_len : ∀ q, (plC q).length = 4 := fun _ => rfl
theorem trunc_fits (k : Kd) (v : BitVec 64) (h : k.trunc v = v) (hs : k.size < 8) : v >>> (8 * k.size) = 0#64 := by
  apply BitVec.eq_of_toNat_eq
  rw [BitVec.toNat_ushiftRight, Nat.shiftRight_eq_div_pow]
  have hz : (0#64).toNat = 0 := rfl
  rw [hz]
  have := v.isLt
  apply Nat.div_eq_of_lt
  rw [← h]
  cases k
  · have h1 := (v.setWidth 8).isLt
    simp only [Kd.trunc, Kd.size, BitVec.toNat_setWidth] at *; omega
  · have h1 := (v.setWidth 16).isLt
    simp only [Kd.trunc, Kd.size, BitVec.toNat_setWidth] at *; omega
  · have h1 := (v.setWidth 32).isLt
    simp only [Kd.trunc, Kd.size, BitVec.toNat_setWidth] at *; omega
  · exact absurd hs (by decide)
  · simp only [Kd.trunc]; split <;> decide
/-- A place whose field holds v. -/
def Has (w : World) (g : Nat) (q : Pl × BitVec 64) : Prop := q.1.ok w ∧ w.cell? ⟨q.1.X, q.1.o, none⟩ = some (q.1.k.val q.2) ∧ q.1.k.trunc q.2 = q.2 ∧ q.1.box ≠ g ∧ q.1.X ≠ g ∧ q.1.at' + q.1.k.size ≤ 4096
theorem Has.chg {w w' : World} {g : Nat} {q : Pl × BitVec 64} (h : Has w g q) (c : Chg (fun b => b = g) w w') : Has w' g q := by
  obtain ⟨h1, h2, h3, h4, h5, h6⟩ := h
  exact ⟨h1.chg c h4, c.cell h2 h5, h3, h4, h5, h6⟩
end Idn
theorem put_fits (k : Kd) (v : BitVec 64) (h : k.trunc v = v) : Wire.putE v (k.size : Nat) = 0 ∧ Wire.putB v (k.size : Nat) = Wire.le v k.size := by
  have h0 := Wire.putE_ok v k.size k.size_pos.1 k.size_pos.2 (trunc_fits k v h)
  exact ⟨h0, Wire.putB_ok v k.size h0⟩
set_option maxHeartbeats 1600000 in
set_option maxRecDepth 20000 in
theorem store_any (g cap base : Nat) (l : List (BitVec 8)) (pv : Value) (ps : List (Pl × BitVec 64)) (w : World)
    (ho : w.ownsRow base 5 1 (.slice (some ⟨g, 0, none⟩) 4096 cap) 4096 (by8 l)) (hp : SliceV w plC pv ps) (hoff : Off (fun b => b = g) pv) (hps : ∀ q ∈ ps, Has w g q) :
    Calls Tryd.prog 84 #[.slice (some ⟨g, 0, none⟩) 4096 cap, pv] w fun e w' => e = .returned (.tuple #[]) ∧ w'.ownsRow base 5 1 (.slice (some ⟨g, 0, none⟩) 4096 cap) 4096 (by8 (Lay.lays l (ps.map plB))) ∧ Chg (fun b => b = g) w w' := by
  have hgs : g < w.heap.size := (ho.lt g rfl).2
  obtain ⟨hcap, hcap2⟩ : 4096 ≤ cap ∧ cap ≤ 9223372036854775807 := by
    obtain ⟨_, h2⟩ := ho
    rcases h2 with ⟨h, _⟩ | ⟨_, c, cur, h, _, _, r1, r2, _⟩
    · cases h
    · cases h; unfold maxLen at r2; exact ⟨r1, r2⟩
  have hll : l.length = 4096 := by have := ho.1; rwa [by8_length, Nat.mul_one] at this
  have hm : ps.length ≤ 9223372036854775807 := by obtain ⟨_, c, _, _, h1, h2, _⟩ := hp; omega
  obtain ⟨pa, pc, rfl, -, -, -, -⟩ := id hp
  have O := Lib.hid ho; have P := Lib.hid hp; have OFF := Lib.hid hoff; have PS := Lib.hid hps; have HGS := Lib.hid hgs; have HCAP := Lib.hid hcap; have HCAP2 := Lib.hid hcap2; have HLL := Lib.hid hll
  clear ho hp hoff hps hgs hcap hcap2 hll
  go_enter Tryd.func84, Tryd.ntmps84
  go_wp2
  go_loopw [10] (fun i wr => ∃ k : Nat, k ≤ ps.length ∧ i = .int .i64 k ∧ wr.ownsRow base 5 1 (.slice (some ⟨g, 0, none⟩) 4096 cap) 4096 (by8 (Lay.lays l ((ps.take k).map plB))) ∧ Chg (fun b => b = g) w wr) (fun i _ => ps.length - (intOf i).toNat)
  case atStart => exact ⟨0, by omega, rfl, O.out, Chg.refl _ _⟩
  case round =>
    obtain ⟨k, hk, rfl, ho, hc⟩ := hrel
    have OW := Lib.hid ho; have C := Lib.hid hc; clear ho hc
    by_cases hlt : k < ps.length
    · obtain ⟨⟨p, v⟩, hx⟩ : ∃ q, ps[k]? = some q := ⟨ps[k], List.getElem?_eq_getElem hlt⟩
      have HAS := Lib.hid (PS.out _ (List.mem_of_getElem? hx))
      have hta : ((ps.take (k + 1)).map plB) = (ps.take k).map plB ++ [plB (p, v)] := by
        obtain ⟨h1, h2⟩ := List.getElem?_eq_some_iff.1 hx
        rw [List.take_succ_eq_append_getElem h1, List.map_append, h2]; rfl
      have HTA := Lib.hid hta
      obtain ⟨pa', pc', e0, -, -, -, hrow⟩ := P.out.chg C.out OFF.out
      injection e0 with e1 e2 e3
      subst e1 e3
      clear e2
      have f0 := flat_get plC_len ps k 0 _ hx (by decide)
      have f1 := flat_get plC_len ps k 1 _ hx (by decide)
      have f2 := flat_get plC_len ps k 2 _ hx (by decide)
      have f3 := flat_get plC_len ps k 3 _ hx (by decide)
      obtain ⟨pb, po, rfl, c0⟩ := hrow.at (i := k * 4) (v := .int .i64 p.at') f0
      obtain ⟨b', o', ee, c1⟩ := hrow.at (i := k * 4 + 1) (v := .int .i64 (p.k.size : Nat)) f1
      cases ee
      obtain ⟨b', o', ee, c2⟩ := hrow.at (i := k * 4 + 2) (v := .func (.func p.k.getF) #[] #[.pointer (some ⟨p.box, 0, none⟩)]) f2
      cases ee
      obtain ⟨b', o', ee, c3⟩ := hrow.at (i := k * 4 + 3) (v := .func (.func p.k.setF) #[] #[.pointer (some ⟨p.box, 0, none⟩)]) f3
      cases ee
      rw [← Nat.add_assoc] at c1 c2 c3
      clear hx hta hrow f0 f1 f2 f3
      go_upto_region 3 with (refine wpList_store_new rfl 224 (.tmp 5) (.tmp 13) rfl (Pl.cells p).toArray 224 _ rfl rfl (by kernel_rfl) rfl (Pl.cells_one _) ?_; intro w2 hh hb; have HH := Lib.hid hh; have HB := Lib.hid hb; clear hh hb)
      obtain ⟨h1, h2, h3, h4, h5, h6⟩ := HAS.out.chg C.out
      dsimp only at h1 h2 h3 h4 h5 h6
      obtain ⟨g1, g2⟩ := put_fits p.k v h3
      have hsz := p.k.size_pos
      have hr := run_from g 4096 cap p.at' (by omega) HCAP.out (by have := HCAP.out; omega) HCAP2.out
      have q1 : ∀ y : KeepT nowhere w2, y.val.cell? ⟨wr.heap.size, 1, none⟩ = some (.int .i64 (p.k.size : Nat)) := fun y => y.cell (cell_of_row _ _ 1 _ _ _ HH.out) id
      have q2 : ∀ y : KeepT nowhere w2, y.val.cell? ⟨wr.heap.size, 2, none⟩ = some (.func (.func p.k.getF) #[] #[.pointer (some ⟨p.box, 0, none⟩)]) := fun y => y.cell (cell_of_row _ _ 2 _ _ _ HH.out) id
      have H1 := Lib.hid (h1.below HB.out); have H2 := Lib.hid (show w2.cell? ⟨p.X, p.o, none⟩ = some (p.k.val v) from (HB.out.cell (p := ⟨p.X, p.o, none⟩) (block_lt_of_cell h2)).trans h2); have H3 := Lib.hid h3; have H6 := Lib.hid h6; have G1 := Lib.hid g1; have G2 := Lib.hid g2; have HSZ := Lib.hid hsz
      have HH0 := Lib.hid ((cell_of_row w2 wr.heap.size 0 _ _ _ HH.out).trans rfl : w2.cell? ⟨wr.heap.size, 0, none⟩ = some (.int .i64 p.at'))
      clear h1 h2 h3 h4 h5 h6 g1 g2 hsz c0 c1 c2 c3
      obtain ⟨sz, hsz⟩ : ∃ sz : Int, sz = (p.k.size : Nat) := ⟨_, rfl⟩
      rw [← hsz] at q1 G1 G2
      have HSZE := Lib.hid hsz
      clear hsz
      have GET : ∀ W : World, p.ok W → W.cell? ⟨p.X, p.o, none⟩ = some (p.k.val v) → Calls Tryd.prog p.k.getF #[.pointer (some ⟨p.box, 0, none⟩)] W fun e w' => e = .returned (.int .u64 (uv v)) ∧ W = w' := fun W h1 h2 => get_any p v W h1 h2 H3.out
      have GETH := Lib.hid GET
      clear GET
      obtain ⟨pat, pk, pX, pof, pbox⟩ := p
      cases pk
      all_goals
        dsimp only [Kd.getF] at q2
        go_wp2
        refine wp_region_planW nowhere [(true, 0), (true, 1), (true, 3), (true, 4), (false, 2), (false, 5), (true, 6), (true, 7), (true, 8), (true, 9), (true, 10)]
          (by kernel_rfl) (by kernel_rfl) (by intro c a d v w h; cases d <;> exact h) ?_
        intro W1 K1 C1
        repeat (refine wpS_firm rfl (fun K hK => ?_); simp only [Keep]; go_simp; refine hK _ ?_; clear hK K)
        refine wpS_chain rfl ?_
        go_wp2_with ((first | go_at_call 165 | go_at_call 163 | go_at_call 160 | go_at_call 176 | go_at_call 178); go_loud (refine (GETH.out _ (H1.out.below C1.out) ((C1.out.cell (p := ⟨pX, pof, none⟩) (block_lt_of_cell H2.out)).trans H2.out)).mono ?_; rintro r w' ⟨rfl, rfl⟩))
        refine ⟨K1.out, ?_⟩
        refine wpS_chain rfl ?_
        go_wp2_with (go_at_call 137; go_loud (refine (Put_at v sz 0 _ _ G1.out G2.out).mono ?_; rintro r w3 ⟨u, rfl, hu, hw⟩; have U := Lib.hid (BytesV.of_own hu); have K2 := Lib.hid (K1.out.below hw); have C2 := Lib.hid (gr_tr C1.out hw); clear hu hw))
        refine ⟨K2.out, ?_⟩
        repeat (refine wpS_firm rfl (fun K hK => ?_); simp only [Keep]; go_simp; refine hK _ ?_; clear hK K)
        unfold wpS
        have d0 : w3.cell? ⟨wr.heap.size, 0, none⟩ = some (.int .i64 pat) := (C2.out.cell (p := ⟨wr.heap.size, 0, none⟩) (block_lt_of_cell HH0.out)).trans HH0.out
        have B3 := Lib.hid (gr_tr HB.out C2.out)
        have O3 := Lib.hid (own_below OW.out B3.out)
        obtain ⟨ua, un, uc, rfl⟩ : ∃ a n c, u = .slice a n c := by obtain ⟨a, c, e, _⟩ := U.out; exact ⟨_, _, _, e⟩
        go_wp2_with (refine copy_at rfl (.tmp 26) (.tmp 27) rfl base g 4096 cap pat (Lay.lays l ((ps.take k).map plB)) _ rfl (.slice ua un uc) rfl O3.out U.out (by rw [Wire.le_len]; exact H6.out) (by rw [Wire.le_len]; have := HSZ.out; omega) ?_; intro w4 ho hg; have O4 := Lib.hid ho; have C4 := Lib.hid ((C.out.then_below B3.out).grown hg (fun k hk => by cases hk; exact .inl rfl)); clear ho hg)
        go_roundw
        case rel => exact ⟨k + 1, by omega, by go_num, by rw [HTA.out, Lay.lays_snoc]; exact O4.out, C4.out⟩
        case measure => simp [intOf]; omega
    · obtain rfl : k = ps.length := by omega
      have ho := OW.out
      rw [List.take_length] at ho
      have OO := Lib.hid ho
      clear ho hlt
      go_wp2
      go_end0
      exact ⟨rfl, OO.out, C.out⟩
end Go.Proofs.YthnnopjakpjoeaaDoor
