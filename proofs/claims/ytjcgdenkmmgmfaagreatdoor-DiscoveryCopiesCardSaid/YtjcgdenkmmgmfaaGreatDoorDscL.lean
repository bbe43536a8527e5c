/- Discovery: Add. Printed by gendscl.py. -/
import Derived.Test.YtjcgdenkmmgmfaaGreatDoorDscK
namespace Go.Proofs.YtjcgdenkmmgmfaaGreatDoor
open Go.RowKit Dsc
set_option linter.unusedVariables false
set_option linter.unusedSimpArgs false
namespace Dsc
def addE (es : List Ent) (r : Rec) (hs : List (List (BitVec 8))) : Int := if r.ok = false ∨ 256 < hs.length ∨ hs.all nmOk = false then 2 else if 256 ≤ es.length then 7 else if 0 ≤ ix es r then 11 else 0
theorem addE_ok {es : List Ent} {r : Rec} {hs : List (List (BitVec 8))} (h : addE es r hs = 0) : r.ok = true ∧ hs.length ≤ 256 ∧ hs.all nmOk = true ∧ es.length < 256 ∧ ix es r < 0 := by
  unfold addE at h
  split at h
  · simp at h
  · rename_i h1
    split at h
    · simp at h
    · split at h
      · simp at h
      · rename_i h2 h3
        refine ⟨?_, ?_, ?_, by omega, by omega⟩
        · cases hb : r.ok
          · exact absurd (.inl hb) h1
          · rfl
        · have : ¬ 256 < hs.length := fun h => h1 (.inr (.inl h)); omega
        · cases hb : hs.all nmOk
          · exact absurd (.inr (.inr hb)) h1
          · rfl
end Dsc
theorem Add_nil (cr : Array Value) (v : Value) (w : World) :
    Calls Tryz.prog 11 #[.pointer none, .agg cr, v] w fun e w' => e = .returned (.int .i64 1) ∧ Below w.heap.size w w' := by
  go_enter Tryz.func11, Tryz.ntmps11
  go_wp2
  go_ret
  exact ⟨rfl, gr_alloc _ _⟩
set_option maxHeartbeats 6400000 in
set_option maxRecDepth 20000 in
theorem Add_no (p : Nat) (es : List Ent) (g : BitVec 64) (lv : Value) (hvs : List Value) (r : Rec) (v : Value) (hs : List (List (BitVec 8))) (w : World) (hd : DirAt w p es g lv hvs) (hes : es.length ≤ 256) (hfit : r.Fit) (hv : SliceV w strC v hs) (hl : ∀ s ∈ hs, s.length ≤ 9223372036854775807) (E : Int) (hE : addE es r hs = E) (hne : E ≠ 0) :
    Calls Tryz.prog 11 #[.pointer (some ⟨p, 0, none⟩), .agg r.cells.toArray, v] w fun e w' => e = .returned (.int .i64 E) ∧ Below w.heap.size w w' := by
  have HE := Lib.hid hE; have HNE := Lib.hid hne
  clear hE hne
  have DD0 := Lib.hid hd; have S0 := Lib.hid hv
  obtain ⟨ah, ch, rfl, -⟩ := id hv
  obtain ⟨al, cl, hlv⟩ : ∃ a c, lv = .slice a es.length c := own_shape hd.own
  subst hlv
  obtain ⟨W, hW⟩ : ∃ W, W = w.alloc (.cells r.cells.toArray 37) := ⟨_, rfl⟩
  have D := Lib.hid (show Below w.heap.size w W by rw [hW]; exact gr_alloc w _)
  have X := Lib.hid (show W.heap[w.heap.size]? = some (.cells r.cells.toArray 37 (0, 0)) by rw [hW]; exact heap_alloc_new w _)
  have DD := Lib.hid (hd.below D.out)
  have S := Lib.hid (SliceV.below hv D.out)
  have HW := Lib.hid hW
  obtain ⟨b1, hb1⟩ : ∃ b, r.ok = b := ⟨_, rfl⟩
  obtain ⟨b3, hb3⟩ : ∃ b, hs.all nmOk = b := ⟨_, rfl⟩
  obtain ⟨j, hj⟩ : ∃ j, ix es r = j := ⟨_, rfl⟩
  have VAL := Lib.hid (fun w => Valid_at r b1 w hfit hb1)
  have CON := Lib.hid (fun w (h : SliceV w strC (.slice ah hs.length ch) hs) (hn : hs.length ≤ 256) => conHosts_at _ hs b3 w h hl hn hb3)
  have ATX := Lib.hid (fun w (h : DirAt w p es g (.slice al es.length cl) hvs) (hn : es.length ≤ 256) => at_at p es g _ hvs r j w h hj hn)
  have B1 := Lib.hid hb1; have B3 := Lib.hid hb3; have HJ := Lib.hid hj
  have CRS := Lib.hid (show r.cells.toArray.size = 10 from rfl)
  obtain ⟨cr, hcr⟩ : ∃ c, r.cells.toArray = c := ⟨_, rfl⟩
  rw [hcr] at HW X VAL ATX CRS ⊢
  have HCR := Lib.hid (show #[.int .u8 (uv r.tr), .int .u8 (uv r.fa), .bool r.rf, .bool r.sc, .int .u16 (uv r.po), .int .u16 (uv r.ct), .int .u16 (uv r.qu), .string (strOf r.sv), .string (strOf r.sb), .string (strOf r.ad)] = cr from hcr)
  clear hW hb1 hb3 hj hcr hd hv
  obtain ⟨nh, hnh⟩ : ∃ n, hs.length = n := ⟨_, rfl⟩
  have HNH := Lib.hid hnh
  obtain ⟨n, hn⟩ : ∃ n, es.length = n := ⟨_, rfl⟩
  have HN := Lib.hid hn
  have HES := Lib.hid (show n ≤ 256 by rw [← hn]; exact hes)
  rw [hnh] at S S0 CON ⊢
  rw [hn] at DD DD0 ATX
  clear hl hfit hes hn hnh
  go_enter Tryz.func11, Tryz.ntmps11
  go_upto_region 1 with fail
  rw [← HW.out]
  cases b1
  · have hE : E = 2 := by rw [← HE.out]; unfold addE; rw [if_pos (.inl B1.out)]
    subst hE
    go_wp2_with (first
      | (refine wpList_load_row rfl 37 (.tmp 4) rfl w.heap.size rfl 37 cr (0, 0) _ X.out Tryz.underlying37 rfl (by rw [CRS.out]; kernel_rfl) ?_)
      | (go_at_call 29; go_loud (refine (VAL.out _).mono ?_; rintro e w1 ⟨rfl, hw⟩; have D1 := Lib.hid (gr_tr D.out hw); have X1 := Lib.hid (blk_below X.out hw); have DD1 := Lib.hid (DD.out.below hw); have S1 := Lib.hid (SliceV.below S.out hw); clear hw)))
    go_ret
    exact ⟨rfl, D1.out⟩
  · by_cases hbig : 256 < nh
    · have hE : E = 2 := by rw [← HE.out]; unfold addE; rw [if_pos (.inr (.inl (by rw [HNH.out]; exact hbig)))]
      subst hE
      go_wp2_with (first
        | (refine wpList_load_row rfl 37 (.tmp 4) rfl w.heap.size rfl 37 cr (0, 0) _ X.out Tryz.underlying37 rfl (by rw [CRS.out]; kernel_rfl) ?_)
        | (go_at_call 29; go_loud (refine (VAL.out _).mono ?_; rintro e w1 ⟨rfl, hw⟩; have D1 := Lib.hid (gr_tr D.out hw); have X1 := Lib.hid (blk_below X.out hw); have DD1 := Lib.hid (DD.out.below hw); have S1 := Lib.hid (SliceV.below S.out hw); clear hw)))
      go_ret
      exact ⟨rfl, D1.out⟩
    · have hd1 : decide (256 < nh) = false := decide_eq_false hbig
      have HNL := Lib.hid (show nh ≤ 256 by omega)
      cases b3
      · have hE : E = 2 := by rw [← HE.out]; unfold addE; rw [if_pos (.inr (.inr B3.out))]
        subst hE
        go_wp2_with (first
          | (refine wpList_load_row rfl 37 (.tmp 4) rfl w.heap.size rfl 37 cr (0, 0) _ X.out Tryz.underlying37 rfl (by rw [CRS.out]; kernel_rfl) ?_)
          | (go_at_call 29; go_loud (refine (VAL.out _).mono ?_; rintro e w1 ⟨rfl, hw⟩; have D1 := Lib.hid (gr_tr D.out hw); have X1 := Lib.hid (blk_below X.out hw); have DD1 := Lib.hid (DD.out.below hw); have S1 := Lib.hid (SliceV.below S.out hw); clear hw))
          | (go_at_call 30; go_loud (refine (CON.out _ S1.out HNL.out).mono ?_; rintro e w2 ⟨rfl, hw⟩; have D2 := Lib.hid (gr_tr D1.out hw); have X2 := Lib.hid (blk_below X1.out hw); have DD2 := Lib.hid (DD1.out.below hw); have S2 := Lib.hid (SliceV.below S1.out hw); clear hw; have p0 : w2.cell? ⟨p, 0, none⟩ = some (.slice al n cl) := (cell_of_row _ _ 0 _ _ _ DD2.out.blk).trans rfl)))
        go_ret
        exact ⟨rfl, D2.out⟩
      · have HC := Lib.hid (show ¬ (r.ok = false ∨ 256 < hs.length ∨ hs.all nmOk = false) by rw [B1.out, B3.out, HNH.out]; rintro (h | h | h); exact absurd h (by decide); exact hbig h; exact absurd h (by decide))
        by_cases hfull : 256 ≤ n
        · have hE : E = 7 := by rw [← HE.out]; unfold addE; rw [if_neg HC.out, if_pos (by rw [HN.out]; exact hfull)]
          subst hE
          have hd2 : decide (256 ≤ n) = true := decide_eq_true hfull
          go_wp2_with (first
            | (refine wpList_load_row rfl 37 (.tmp 4) rfl w.heap.size rfl 37 cr (0, 0) _ X.out Tryz.underlying37 rfl (by rw [CRS.out]; kernel_rfl) ?_)
            | (go_at_call 29; go_loud (refine (VAL.out _).mono ?_; rintro e w1 ⟨rfl, hw⟩; have D1 := Lib.hid (gr_tr D.out hw); have X1 := Lib.hid (blk_below X.out hw); have DD1 := Lib.hid (DD.out.below hw); have S1 := Lib.hid (SliceV.below S.out hw); clear hw))
            | (go_at_call 30; go_loud (refine (CON.out _ S1.out HNL.out).mono ?_; rintro e w2 ⟨rfl, hw⟩; have D2 := Lib.hid (gr_tr D1.out hw); have X2 := Lib.hid (blk_below X1.out hw); have DD2 := Lib.hid (DD1.out.below hw); have S2 := Lib.hid (SliceV.below S1.out hw); clear hw; have p0 : w2.cell? ⟨p, 0, none⟩ = some (.slice al n cl) := (cell_of_row _ _ 0 _ _ _ DD2.out.blk).trans rfl)))
          go_ret
          exact ⟨rfl, D2.out⟩
        · have hd2 : decide (256 ≤ n) = false := decide_eq_false hfull
          by_cases hbusy : 0 ≤ j
          · have hE : E = 11 := by rw [← HE.out]; unfold addE; rw [if_neg HC.out, if_neg (by rw [HN.out]; exact hfull), HJ.out, if_pos hbusy]
            subst hE
            go_wp2_with (first
              | (refine wpList_load_row rfl 37 (.tmp 4) rfl w.heap.size rfl 37 cr (0, 0) _ X.out Tryz.underlying37 rfl (by rw [CRS.out]; kernel_rfl) ?_)
              | (refine wpList_load_row rfl 37 (.tmp 4) rfl w.heap.size rfl 37 cr (0, 0) _ X2.out Tryz.underlying37 rfl (by rw [CRS.out]; kernel_rfl) ?_)
              | (go_at_call 29; go_loud (refine (VAL.out _).mono ?_; rintro e w1 ⟨rfl, hw⟩; have D1 := Lib.hid (gr_tr D.out hw); have X1 := Lib.hid (blk_below X.out hw); have DD1 := Lib.hid (DD.out.below hw); have S1 := Lib.hid (SliceV.below S.out hw); clear hw))
              | (go_at_call 30; go_loud (refine (CON.out _ S1.out HNL.out).mono ?_; rintro e w2 ⟨rfl, hw⟩; have D2 := Lib.hid (gr_tr D1.out hw); have X2 := Lib.hid (blk_below X1.out hw); have DD2 := Lib.hid (DD1.out.below hw); have S2 := Lib.hid (SliceV.below S1.out hw); clear hw; have p0 : w2.cell? ⟨p, 0, none⟩ = some (.slice al n cl) := (cell_of_row _ _ 0 _ _ _ DD2.out.blk).trans rfl))
              | (go_at_call 32; go_loud (refine (ATX.out _ DD2.out HES.out).mono ?_; rintro e w3 ⟨rfl, hw⟩; have D3 := Lib.hid (gr_tr D2.out hw); have X3 := Lib.hid (blk_below X2.out hw); have DD3 := Lib.hid (DD2.out.below hw); have S3 := Lib.hid (SliceV.below S2.out hw); clear hw p0)))
            go_ret
            exact ⟨rfl, D3.out⟩
          · exfalso
            apply HNE.out
            rw [← HE.out]; unfold addE
            rw [if_neg HC.out, if_neg (by rw [HN.out]; exact hfull), HJ.out, if_neg hbusy]
end Go.Proofs.YtjcgdenkmmgmfaaGreatDoor
