/- The reference of layer 24: EncodeController. Printed by genref24c.py. -/
import Derived.Test.YthnnopjakpjoeaaDoorRef24B
namespace Go.Proofs.YthnnopjakpjoeaaDoor
open Go.RowKit Idn
set_option linter.unusedVariables false
set_option linter.unusedSimpArgs false
theorem Own4.bytes {w : World} {base g cap : Nat} {l : List (BitVec 8)} (h : Own4 w base g cap l) : BytesV w (.slice (some ⟨g, 0, none⟩) 4096 cap) l := by
  have hl := h.len
  have h2 := h
  unfold Own4 at h2
  rw [← hl] at h2 ⊢
  exact BytesV.of_own h2
namespace Idn
def ctlE (x : Ctl) : Int := if ctlOk x then 0 else 2
def ctlR (x : Ctl) : List (BitVec 8) := if ctlOk x then ctlB x else []
end Idn
set_option maxHeartbeats 6400000 in
set_option maxRecDepth 100000 in
theorem rEncC_no (x : Ctl) (w : World) (hok : ctlOk x = false) (hlen : x.serial.length ≤ 300 ∧ x.model.length ≤ 300 ∧ x.revision.length ≤ 300 ∧ x.name.length ≤ 300) :
    Calls Tryd.prog 21 #[.agg (Ctl.cells x).toArray] w fun e w' => e = .returned (.tuple #[.slice none 0 0, .int .i64 2]) ∧ Below w.heap.size w w' := by
  have OK := Lib.hid hok; have HLEN := Lib.hid hlen; clear hok hlen
  obtain ⟨W, hW⟩ : ∃ W, W = w.alloc (.cells (Ctl.cells x).toArray 38) := ⟨_, rfl⟩
  have BX := Lib.hid (show W.heap[w.heap.size]? = some (.cells (Ctl.cells x).toArray 38 (0, 0)) by rw [hW]; exact heap_alloc_new w _)
  have D := Lib.hid (show Below w.heap.size w W by rw [hW]; exact gr_alloc w _)
  have HW := Lib.hid hW; clear hW
  obtain ⟨cs, hcs⟩ : ∃ cs, (Ctl.cells x).toArray = cs := ⟨_, rfl⟩
  have HCS := Lib.hid hcs
  have hsz : cs.size = 26 := by rw [← hcs]; rfl
  have HSZ := Lib.hid hsz
  rw [hcs] at BX HW ⊢
  clear hcs hsz
  go_enter Tryd.func21, Tryd.ntmps21
  go_upto_region 1 with (fail)
  rw [← HW.out]
  go_wp2_with (first
    | (refine wpList_load_row rfl 38 (.tmp 1) rfl w.heap.size rfl 38 cs (0, 0) _ BX.out Tryd.underlying38 rfl (by rw [HSZ.out]; kernel_rfl) ?_)
    | (go_at_call 68; go_loud (rw [← HCS.out]; refine (rvalid_at x false _ OK.out HLEN.out).mono ?_; rintro r w1 ⟨rfl, hw⟩; have D1 := Lib.hid (gr_tr D.out hw); clear hw)))
  go_ret2
  exact ⟨rfl, D1.out⟩
set_option maxHeartbeats 6400000 in
set_option maxRecDepth 100000 in
theorem rEncC_ok (x : Ctl) (w : World) (hok : ctlOk x = true) (hlen : x.serial.length ≤ 300 ∧ x.model.length ≤ 300 ∧ x.revision.length ≤ 300 ∧ x.name.length ≤ 300) :
    Calls Tryd.prog 21 #[.agg (Ctl.cells x).toArray] w fun e w' => ∃ g, e = .returned (.tuple #[.slice (some ⟨g, 0, none⟩) 4096 4096, .int .i64 0]) ∧ Own4 w' w.heap.size g 4096 (ctlB x) ∧ Below w.heap.size w w' := by
  have hnl : x.serial.length ≤ 20 ∧ x.model.length ≤ 40 ∧ x.revision.length ≤ 8 ∧ x.name.length ≤ 223 := by
    have := hok
    unfold ctlOk at this
    simp only [Bool.and_eq_true] at this
    exact ⟨nameOk_len this.1.1.1, nameOk_len this.1.1.2, nameOk_len this.1.2, nameOk_len this.2⟩
  have hfin := ctl_ref x hok
  have FIN := Lib.hid hfin; have NL := Lib.hid hnl
  have OK := Lib.hid hok; have HLEN := Lib.hid hlen; clear hok hlen hfin hnl
  obtain ⟨W, hW⟩ : ∃ W, W = w.alloc (.cells (Ctl.cells x).toArray 38) := ⟨_, rfl⟩
  have BX := Lib.hid (show W.heap[w.heap.size]? = some (.cells (Ctl.cells x).toArray 38 (0, 0)) by rw [hW]; exact heap_alloc_new w _)
  have D := Lib.hid (show Below w.heap.size w W by rw [hW]; exact gr_alloc w _)
  have HS := Lib.hid (show w.heap.size < W.heap.size by rw [hW]; simp)
  have HW := Lib.hid hW; clear hW
  obtain ⟨cs, hcs⟩ : ∃ cs, (Ctl.cells x).toArray = cs := ⟨_, rfl⟩
  have HCS := Lib.hid hcs
  have hsz : cs.size = 26 := by rw [← hcs]; rfl
  have HSZ := Lib.hid hsz
  have F0 := Lib.hid (show cs[0]? = some (.int .u16 (uv x.vendor)) by rw [← hcs]; rfl)
  have F1 := Lib.hid (show cs[1]? = some (.int .u16 (uv x.subvendor)) by rw [← hcs]; rfl)
  have F2 := Lib.hid (show cs[2]? = some (.int .u8 (uv x.maxTransfer)) by rw [← hcs]; rfl)
  have F3 := Lib.hid (show cs[3]? = some (.int .u16 (uv x.controller)) by rw [← hcs]; rfl)
  have F4 := Lib.hid (show cs[4]? = some (.int .u32 (uv x.version)) by rw [← hcs]; rfl)
  have F5 := Lib.hid (show cs[5]? = some (.int .u16 (uv x.admin)) by rw [← hcs]; rfl)
  have F6 := Lib.hid (show cs[6]? = some (.int .u8 (uv x.aborts)) by rw [← hcs]; rfl)
  have F7 := Lib.hid (show cs[7]? = some (.int .u8 (uv x.events)) by rw [← hcs]; rfl)
  have F8 := Lib.hid (show cs[8]? = some (.int .u8 (uv x.firmware)) by rw [← hcs]; rfl)
  have F9 := Lib.hid (show cs[9]? = some (.int .u8 (uv x.logs)) by rw [← hcs]; rfl)
  have F10 := Lib.hid (show cs[10]? = some (.int .u8 (uv x.errors)) by rw [← hcs]; rfl)
  have F11 := Lib.hid (show cs[11]? = some (.int .u8 (uv x.powers)) by rw [← hcs]; rfl)
  have F12 := Lib.hid (show cs[12]? = some (.int .u16 (uv x.keepAlive)) by rw [← hcs]; rfl)
  have F13 := Lib.hid (show cs[13]? = some (.int .u8 (uv x.entrySizes)) by rw [← hcs]; rfl)
  have F14 := Lib.hid (show cs[14]? = some (.int .u8 (uv x.responseSizes)) by rw [← hcs]; rfl)
  have F15 := Lib.hid (show cs[15]? = some (.int .u16 (uv x.commands)) by rw [← hcs]; rfl)
  have F16 := Lib.hid (show cs[16]? = some (.int .u32 (uv x.namespaces)) by rw [← hcs]; rfl)
  have F17 := Lib.hid (show cs[17]? = some (.int .u16 (uv x.optional)) by rw [← hcs]; rfl)
  have F18 := Lib.hid (show cs[18]? = some (.int .u8 (uv x.cache)) by rw [← hcs]; rfl)
  have F19 := Lib.hid (show cs[19]? = some (.int .u16 (uv x.atomic)) by rw [← hcs]; rfl)
  have F20 := Lib.hid (show cs[20]? = some (.int .u16 (uv x.powerAtomic)) by rw [← hcs]; rfl)
  have F21 := Lib.hid (show cs[21]? = some (.int .u32 (uv x.lists)) by rw [← hcs]; rfl)
  have F22 := Lib.hid (show cs[22]? = some (.string (strOf x.serial)) by rw [← hcs]; rfl)
  have F23 := Lib.hid (show cs[23]? = some (.string (strOf x.model)) by rw [← hcs]; rfl)
  have F24 := Lib.hid (show cs[24]? = some (.string (strOf x.revision)) by rw [← hcs]; rfl)
  have F25 := Lib.hid (show cs[25]? = some (.string (strOf x.name)) by rw [← hcs]; rfl)
  rw [hcs] at BX HW ⊢
  clear hcs hsz
  go_enter Tryd.func21, Tryd.ntmps21
  go_upto_region 1 with (fail)
  rw [← HW.out]
  go_upto_region 4 with (first
    | (refine wpList_load_row rfl 38 (.tmp 1) rfl w.heap.size rfl 38 cs (0, 0) _ BX.out Tryd.underlying38 rfl (by rw [HSZ.out]; kernel_rfl) ?_)
    | (go_at_call 68; go_loud (rw [← HCS.out]; refine (rvalid_at x true _ OK.out HLEN.out).mono ?_; rintro r w1 ⟨rfl, hw⟩; replace BX := Lib.hid (blk_below BX.out hw); have HS1 := Lib.hid (Nat.lt_of_lt_of_le HS.out hw.size); replace D := Lib.hid (gr_tr D.out hw); clear hw))
    | (refine make_law bytesOk rfl _ _ rfl w1.heap.size .i64 .i64 4096 4096 4096 rfl rfl rfl rfl (by omega) (by omega) (Nat.le_refl _) ?_; intro w2 hown hgrow; have O := Lib.hid (show Own4 w2 w1.heap.size w1.heap.size 4096 zeros by have h := hown; rw [by8_made] at h; exact h); replace BX := Lib.hid (blk_below BX.out ((Below.refl w1.heap.size w1).grown hgrow (Nat.le_refl _) (by intro k hk; cases hk))); replace D := Lib.hid (D.out.grown hgrow D.out.size (by intro k hk; cases hk)); clear hgrow hown))
  have e0 := (cell_of_row _ _ 0 _ _ _ BX.out).trans F0.out
  go_upto_region 5 with (go_at_call 69; go_loud (refine (rput_any w1.heap.size 4096 w1.heap.size _ 0 2 (x.vendor.setWidth 64) _ O.out (by omega) (by omega)).mono ?_; rintro r wn ⟨rfl, ho, hc⟩; replace O := Lib.hid ho; replace BX := Lib.hid (hc.blk BX.out (by have := HS1.out; omega)); replace D := Lib.hid (hc.fresh D.out (fun k hk => by have := HS1.out; omega)); clear ho hc))
  clear e0
  have e1 := (cell_of_row _ _ 1 _ _ _ BX.out).trans F1.out
  go_upto_region 6 with (go_at_call 69; go_loud (refine (rput_any w1.heap.size 4096 w1.heap.size _ 2 2 (x.subvendor.setWidth 64) _ O.out (by omega) (by omega)).mono ?_; rintro r wn ⟨rfl, ho, hc⟩; replace O := Lib.hid ho; replace BX := Lib.hid (hc.blk BX.out (by have := HS1.out; omega)); replace D := Lib.hid (hc.fresh D.out (fun k hk => by have := HS1.out; omega)); clear ho hc))
  clear e1
  have e2 := (cell_of_row _ _ 2 _ _ _ BX.out).trans F2.out
  go_upto_region 7 with (go_at_call 69; go_loud (refine (rput_any w1.heap.size 4096 w1.heap.size _ 77 1 (x.maxTransfer.setWidth 64) _ O.out (by omega) (by omega)).mono ?_; rintro r wn ⟨rfl, ho, hc⟩; replace O := Lib.hid ho; replace BX := Lib.hid (hc.blk BX.out (by have := HS1.out; omega)); replace D := Lib.hid (hc.fresh D.out (fun k hk => by have := HS1.out; omega)); clear ho hc))
  clear e2
  have e3 := (cell_of_row _ _ 3 _ _ _ BX.out).trans F3.out
  go_upto_region 8 with (go_at_call 69; go_loud (refine (rput_any w1.heap.size 4096 w1.heap.size _ 78 2 (x.controller.setWidth 64) _ O.out (by omega) (by omega)).mono ?_; rintro r wn ⟨rfl, ho, hc⟩; replace O := Lib.hid ho; replace BX := Lib.hid (hc.blk BX.out (by have := HS1.out; omega)); replace D := Lib.hid (hc.fresh D.out (fun k hk => by have := HS1.out; omega)); clear ho hc))
  clear e3
  have e4 := (cell_of_row _ _ 4 _ _ _ BX.out).trans F4.out
  go_upto_region 9 with (go_at_call 69; go_loud (refine (rput_any w1.heap.size 4096 w1.heap.size _ 80 4 (x.version.setWidth 64) _ O.out (by omega) (by omega)).mono ?_; rintro r wn ⟨rfl, ho, hc⟩; replace O := Lib.hid ho; replace BX := Lib.hid (hc.blk BX.out (by have := HS1.out; omega)); replace D := Lib.hid (hc.fresh D.out (fun k hk => by have := HS1.out; omega)); clear ho hc))
  clear e4
  have e5 := (cell_of_row _ _ 5 _ _ _ BX.out).trans F5.out
  go_upto_region 10 with (go_at_call 69; go_loud (refine (rput_any w1.heap.size 4096 w1.heap.size _ 256 2 (x.admin.setWidth 64) _ O.out (by omega) (by omega)).mono ?_; rintro r wn ⟨rfl, ho, hc⟩; replace O := Lib.hid ho; replace BX := Lib.hid (hc.blk BX.out (by have := HS1.out; omega)); replace D := Lib.hid (hc.fresh D.out (fun k hk => by have := HS1.out; omega)); clear ho hc))
  clear e5
  have e6 := (cell_of_row _ _ 6 _ _ _ BX.out).trans F6.out
  go_upto_region 11 with (go_at_call 69; go_loud (refine (rput_any w1.heap.size 4096 w1.heap.size _ 258 1 (x.aborts.setWidth 64) _ O.out (by omega) (by omega)).mono ?_; rintro r wn ⟨rfl, ho, hc⟩; replace O := Lib.hid ho; replace BX := Lib.hid (hc.blk BX.out (by have := HS1.out; omega)); replace D := Lib.hid (hc.fresh D.out (fun k hk => by have := HS1.out; omega)); clear ho hc))
  clear e6
  have e7 := (cell_of_row _ _ 7 _ _ _ BX.out).trans F7.out
  go_upto_region 12 with (go_at_call 69; go_loud (refine (rput_any w1.heap.size 4096 w1.heap.size _ 259 1 (x.events.setWidth 64) _ O.out (by omega) (by omega)).mono ?_; rintro r wn ⟨rfl, ho, hc⟩; replace O := Lib.hid ho; replace BX := Lib.hid (hc.blk BX.out (by have := HS1.out; omega)); replace D := Lib.hid (hc.fresh D.out (fun k hk => by have := HS1.out; omega)); clear ho hc))
  clear e7
  have e8 := (cell_of_row _ _ 8 _ _ _ BX.out).trans F8.out
  go_upto_region 13 with (go_at_call 69; go_loud (refine (rput_any w1.heap.size 4096 w1.heap.size _ 260 1 (x.firmware.setWidth 64) _ O.out (by omega) (by omega)).mono ?_; rintro r wn ⟨rfl, ho, hc⟩; replace O := Lib.hid ho; replace BX := Lib.hid (hc.blk BX.out (by have := HS1.out; omega)); replace D := Lib.hid (hc.fresh D.out (fun k hk => by have := HS1.out; omega)); clear ho hc))
  clear e8
  have e9 := (cell_of_row _ _ 9 _ _ _ BX.out).trans F9.out
  go_upto_region 14 with (go_at_call 69; go_loud (refine (rput_any w1.heap.size 4096 w1.heap.size _ 261 1 (x.logs.setWidth 64) _ O.out (by omega) (by omega)).mono ?_; rintro r wn ⟨rfl, ho, hc⟩; replace O := Lib.hid ho; replace BX := Lib.hid (hc.blk BX.out (by have := HS1.out; omega)); replace D := Lib.hid (hc.fresh D.out (fun k hk => by have := HS1.out; omega)); clear ho hc))
  clear e9
  have e10 := (cell_of_row _ _ 10 _ _ _ BX.out).trans F10.out
  go_upto_region 15 with (go_at_call 69; go_loud (refine (rput_any w1.heap.size 4096 w1.heap.size _ 262 1 (x.errors.setWidth 64) _ O.out (by omega) (by omega)).mono ?_; rintro r wn ⟨rfl, ho, hc⟩; replace O := Lib.hid ho; replace BX := Lib.hid (hc.blk BX.out (by have := HS1.out; omega)); replace D := Lib.hid (hc.fresh D.out (fun k hk => by have := HS1.out; omega)); clear ho hc))
  clear e10
  have e11 := (cell_of_row _ _ 11 _ _ _ BX.out).trans F11.out
  go_upto_region 16 with (go_at_call 69; go_loud (refine (rput_any w1.heap.size 4096 w1.heap.size _ 263 1 (x.powers.setWidth 64) _ O.out (by omega) (by omega)).mono ?_; rintro r wn ⟨rfl, ho, hc⟩; replace O := Lib.hid ho; replace BX := Lib.hid (hc.blk BX.out (by have := HS1.out; omega)); replace D := Lib.hid (hc.fresh D.out (fun k hk => by have := HS1.out; omega)); clear ho hc))
  clear e11
  have e12 := (cell_of_row _ _ 12 _ _ _ BX.out).trans F12.out
  go_upto_region 17 with (go_at_call 69; go_loud (refine (rput_any w1.heap.size 4096 w1.heap.size _ 320 2 (x.keepAlive.setWidth 64) _ O.out (by omega) (by omega)).mono ?_; rintro r wn ⟨rfl, ho, hc⟩; replace O := Lib.hid ho; replace BX := Lib.hid (hc.blk BX.out (by have := HS1.out; omega)); replace D := Lib.hid (hc.fresh D.out (fun k hk => by have := HS1.out; omega)); clear ho hc))
  clear e12
  have e13 := (cell_of_row _ _ 13 _ _ _ BX.out).trans F13.out
  go_upto_region 18 with (go_at_call 69; go_loud (refine (rput_any w1.heap.size 4096 w1.heap.size _ 512 1 (x.entrySizes.setWidth 64) _ O.out (by omega) (by omega)).mono ?_; rintro r wn ⟨rfl, ho, hc⟩; replace O := Lib.hid ho; replace BX := Lib.hid (hc.blk BX.out (by have := HS1.out; omega)); replace D := Lib.hid (hc.fresh D.out (fun k hk => by have := HS1.out; omega)); clear ho hc))
  clear e13
  have e14 := (cell_of_row _ _ 14 _ _ _ BX.out).trans F14.out
  go_upto_region 19 with (go_at_call 69; go_loud (refine (rput_any w1.heap.size 4096 w1.heap.size _ 513 1 (x.responseSizes.setWidth 64) _ O.out (by omega) (by omega)).mono ?_; rintro r wn ⟨rfl, ho, hc⟩; replace O := Lib.hid ho; replace BX := Lib.hid (hc.blk BX.out (by have := HS1.out; omega)); replace D := Lib.hid (hc.fresh D.out (fun k hk => by have := HS1.out; omega)); clear ho hc))
  clear e14
  have e15 := (cell_of_row _ _ 15 _ _ _ BX.out).trans F15.out
  go_upto_region 20 with (go_at_call 69; go_loud (refine (rput_any w1.heap.size 4096 w1.heap.size _ 514 2 (x.commands.setWidth 64) _ O.out (by omega) (by omega)).mono ?_; rintro r wn ⟨rfl, ho, hc⟩; replace O := Lib.hid ho; replace BX := Lib.hid (hc.blk BX.out (by have := HS1.out; omega)); replace D := Lib.hid (hc.fresh D.out (fun k hk => by have := HS1.out; omega)); clear ho hc))
  clear e15
  have e16 := (cell_of_row _ _ 16 _ _ _ BX.out).trans F16.out
  go_upto_region 21 with (go_at_call 69; go_loud (refine (rput_any w1.heap.size 4096 w1.heap.size _ 516 4 (x.namespaces.setWidth 64) _ O.out (by omega) (by omega)).mono ?_; rintro r wn ⟨rfl, ho, hc⟩; replace O := Lib.hid ho; replace BX := Lib.hid (hc.blk BX.out (by have := HS1.out; omega)); replace D := Lib.hid (hc.fresh D.out (fun k hk => by have := HS1.out; omega)); clear ho hc))
  clear e16
  have e17 := (cell_of_row _ _ 17 _ _ _ BX.out).trans F17.out
  go_upto_region 22 with (go_at_call 69; go_loud (refine (rput_any w1.heap.size 4096 w1.heap.size _ 520 2 (x.optional.setWidth 64) _ O.out (by omega) (by omega)).mono ?_; rintro r wn ⟨rfl, ho, hc⟩; replace O := Lib.hid ho; replace BX := Lib.hid (hc.blk BX.out (by have := HS1.out; omega)); replace D := Lib.hid (hc.fresh D.out (fun k hk => by have := HS1.out; omega)); clear ho hc))
  clear e17
  have e18 := (cell_of_row _ _ 18 _ _ _ BX.out).trans F18.out
  go_upto_region 23 with (go_at_call 69; go_loud (refine (rput_any w1.heap.size 4096 w1.heap.size _ 525 1 (x.cache.setWidth 64) _ O.out (by omega) (by omega)).mono ?_; rintro r wn ⟨rfl, ho, hc⟩; replace O := Lib.hid ho; replace BX := Lib.hid (hc.blk BX.out (by have := HS1.out; omega)); replace D := Lib.hid (hc.fresh D.out (fun k hk => by have := HS1.out; omega)); clear ho hc))
  clear e18
  have e19 := (cell_of_row _ _ 19 _ _ _ BX.out).trans F19.out
  go_upto_region 24 with (go_at_call 69; go_loud (refine (rput_any w1.heap.size 4096 w1.heap.size _ 526 2 (x.atomic.setWidth 64) _ O.out (by omega) (by omega)).mono ?_; rintro r wn ⟨rfl, ho, hc⟩; replace O := Lib.hid ho; replace BX := Lib.hid (hc.blk BX.out (by have := HS1.out; omega)); replace D := Lib.hid (hc.fresh D.out (fun k hk => by have := HS1.out; omega)); clear ho hc))
  clear e19
  have e20 := (cell_of_row _ _ 20 _ _ _ BX.out).trans F20.out
  go_upto_region 25 with (go_at_call 69; go_loud (refine (rput_any w1.heap.size 4096 w1.heap.size _ 528 2 (x.powerAtomic.setWidth 64) _ O.out (by omega) (by omega)).mono ?_; rintro r wn ⟨rfl, ho, hc⟩; replace O := Lib.hid ho; replace BX := Lib.hid (hc.blk BX.out (by have := HS1.out; omega)); replace D := Lib.hid (hc.fresh D.out (fun k hk => by have := HS1.out; omega)); clear ho hc))
  clear e20
  have e21 := (cell_of_row _ _ 21 _ _ _ BX.out).trans F21.out
  go_upto_region 26 with (go_at_call 69; go_loud (refine (rput_any w1.heap.size 4096 w1.heap.size _ 536 4 (x.lists.setWidth 64) _ O.out (by omega) (by omega)).mono ?_; rintro r wn ⟨rfl, ho, hc⟩; replace O := Lib.hid ho; replace BX := Lib.hid (hc.blk BX.out (by have := HS1.out; omega)); replace D := Lib.hid (hc.fresh D.out (fun k hk => by have := HS1.out; omega)); clear ho hc))
  clear e21
  have e22 := (cell_of_row _ _ 22 _ _ _ BX.out).trans F22.out
  go_upto_region 27 with (go_at_call 70; go_loud (refine (rpadded_any w1.heap.size 4096 w1.heap.size _ 4 20 x.serial 32#8 _ O.out (by omega) (by have := NL.out; omega)).mono ?_; rintro r wn ⟨rfl, ho, hc⟩; replace O := Lib.hid ho; replace BX := Lib.hid (hc.blk BX.out (by have := HS1.out; omega)); replace D := Lib.hid (hc.fresh D.out (fun k hk => by have := HS1.out; omega)); clear ho hc))
  clear e22
  have e23 := (cell_of_row _ _ 23 _ _ _ BX.out).trans F23.out
  go_upto_region 28 with (go_at_call 70; go_loud (refine (rpadded_any w1.heap.size 4096 w1.heap.size _ 24 40 x.model 32#8 _ O.out (by omega) (by have := NL.out; omega)).mono ?_; rintro r wn ⟨rfl, ho, hc⟩; replace O := Lib.hid ho; replace BX := Lib.hid (hc.blk BX.out (by have := HS1.out; omega)); replace D := Lib.hid (hc.fresh D.out (fun k hk => by have := HS1.out; omega)); clear ho hc))
  clear e23
  have e24 := (cell_of_row _ _ 24 _ _ _ BX.out).trans F24.out
  go_upto_region 29 with (go_at_call 70; go_loud (refine (rpadded_any w1.heap.size 4096 w1.heap.size _ 64 8 x.revision 32#8 _ O.out (by omega) (by have := NL.out; omega)).mono ?_; rintro r wn ⟨rfl, ho, hc⟩; replace O := Lib.hid ho; replace BX := Lib.hid (hc.blk BX.out (by have := HS1.out; omega)); replace D := Lib.hid (hc.fresh D.out (fun k hk => by have := HS1.out; omega)); clear ho hc))
  clear e24
  have e25 := (cell_of_row _ _ 25 _ _ _ BX.out).trans F25.out
  go_upto_region 30 with (go_at_call 70; go_loud (refine (rpadded_any w1.heap.size 4096 w1.heap.size _ 768 256 x.name 0#8 _ O.out (by omega) (by have := NL.out; omega)).mono ?_; rintro r wn ⟨rfl, ho, hc⟩; replace O := Lib.hid ho; replace BX := Lib.hid (hc.blk BX.out (by have := HS1.out; omega)); replace D := Lib.hid (hc.fresh D.out (fun k hk => by have := HS1.out; omega)); clear ho hc))
  clear e25
  go_wp2
  go_ret2
  refine ⟨_, rfl, ?_, D.out⟩
  have ho := O.out
  rw [← FIN.out]
  have hle : w.heap.size ≤ w1.heap.size := Nat.le_of_lt HS1.out
  exact own_base ho hle
end Go.Proofs.YthnnopjakpjoeaaDoor
