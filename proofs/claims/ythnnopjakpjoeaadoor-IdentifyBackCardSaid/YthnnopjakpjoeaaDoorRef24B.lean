/- The reference of layer 24: name, ValidController, EncodeController. Printed by genref24b.py. -/
import Derived.Test.YthnnopjakpjoeaaDoorIdCtl
import Derived.Test.YthnnopjakpjoeaaDoorRef24A
import Derived.Test.YthnnopjakpjoeaaDoorRefPlain
namespace Go.Proofs.YthnnopjakpjoeaaDoor
open Go.RowKit Idn
set_option linter.unusedVariables false
set_option linter.unusedSimpArgs false
set_option maxHeartbeats 1600000 in
theorem rname_at (s : List (BitVec 8)) (most : Nat) (b : Bool) (w : World) (hb : nameOk s most = b) (hs : s.length ≤ 140737488355328) :
    Calls Tryd.prog 127 #[.string (strOf s), .int .i64 most] w fun e w' => e = .returned (.bool b) ∧ Below w.heap.size w w' := by
  obtain ⟨v, w1, hrun, hown, hbw⟩ := conv_bytes w s (by omega)
  have O := Lib.hid hown; have B := Lib.hid hbw; clear hown hbw
  have hsz : (strOf s).size = s.length := str_size s
  have HB := Lib.hid hb; clear hb
  by_cases h1 : s.length ≤ most
  · have d1 : decide (s.length ≤ most) = true := decide_eq_true h1
    cases h2 : Wire.plain s
    · have HP := Lib.hid h2
      obtain rfl : b = false := by rw [← HB.out]; unfold nameOk; rw [h2]; simp
      clear h1 h2
      go_enter Tryd.func127, Tryd.ntmps127
      go_wp2_with (go_at_call 162; go_loud (refine (rPlain_any _ s false _ O.out.bytes HP.out).mono ?_; rintro r w' ⟨rfl, rfl⟩))
      go_ret
      exact ⟨rfl, B.out⟩
    · have HP := Lib.hid h2
      by_cases h3 : s = []
      · subst h3
        obtain rfl : b = true := by rw [← HB.out]; unfold nameOk; rw [h2]; simp
        clear h1 h2
        have hl0 : ([] : List (BitVec 8)).length = 0 := rfl
        rw [hl0] at hsz
        go_enter Tryd.func127, Tryd.ntmps127
        go_wp2_with (go_at_call 162; go_loud (refine (rPlain_any _ [] true _ O.out.bytes HP.out).mono ?_; rintro r w' ⟨rfl, rfl⟩))
        go_ret
        exact ⟨rfl, B.out⟩
      · have hpos : 0 < s.length := List.length_pos_iff.2 h3
        obtain ⟨y, hy⟩ : ∃ y, s[s.length - 1]? = some y := ⟨_, List.getElem?_eq_getElem (by omega)⟩
        have hi := run_str_at s (s.length - 1) y hy
        have hcast : ((s.length - 1 : Nat) : Int) = (s.length : Int) - 1 := by omega
        rw [hcast] at hi
        have hne : ((s.length : Int) == 0) = false := by simpa using h3
        have hb3 : (some y != some 32#8) = (uv y != 32) := by
          rw [show (32 : Int) = uv 32#8 from rfl, uv_bne]; rfl
        have hb2 : b = (uv y != 32) := by
          rw [← HB.out, ← hb3]; unfold nameOk
          rw [h2, List.getLast?_eq_getElem?, hy, d1]; rfl
        clear hb3
        have ws : IntKind.i64.wrap ((s.length : Int) - 1) = (s.length : Int) - 1 := by
          unfold IntKind.wrap; simp [IntKind.bits, IntKind.signed]; omega
        obtain ⟨z, hz⟩ : ∃ z, (uv y != 32) = z := ⟨_, rfl⟩
        rw [hz] at hb2
        subst hb2
        clear h1 h2 h3 hy hcast
        go_enter Tryd.func127, Tryd.ntmps127
        go_wp2_with (go_at_call 162; go_loud (refine (rPlain_any _ s true _ O.out.bytes HP.out).mono ?_; rintro r w' ⟨rfl, rfl⟩))
        go_ret
        exact ⟨rfl, B.out⟩
  · have d1 : decide (s.length ≤ most) = false := decide_eq_false h1
    obtain rfl : b = false := by rw [← HB.out]; unfold nameOk; rw [d1]; rfl
    clear h1
    go_enter Tryd.func127, Tryd.ntmps127
    go_wp2
    go_ret
    exact ⟨rfl, Below.refl _ _⟩
theorem rname_lit (s : List (BitVec 8)) (m : Int) (b : Bool) (w : World) (hb : ∃ most : Nat, m = most ∧ nameOk s most = b) (hs : s.length ≤ 140737488355328) :
    Calls Tryd.prog 127 #[.string (strOf s), .int .i64 m] w fun e w' => e = .returned (.bool b) ∧ Below w.heap.size w w' := by
  obtain ⟨most, rfl, h⟩ := hb
  exact rname_at s most b w h hs
set_option maxHeartbeats 3200000 in
set_option maxRecDepth 20000 in
theorem rvalid_at (x : Ctl) (b : Bool) (w : World) (hb : ctlOk x = b) (hlen : x.serial.length ≤ 300 ∧ x.model.length ≤ 300 ∧ x.revision.length ≤ 300 ∧ x.name.length ≤ 300) :
    Calls Tryd.prog 68 #[.agg (Ctl.cells x).toArray] w fun e w' => e = .returned (.bool b) ∧ Below w.heap.size w w' := by
  have HLEN := Lib.hid hlen
  obtain ⟨b1, h1⟩ : ∃ b, nameOk x.serial 20 = b := ⟨_, rfl⟩
  obtain ⟨b2, h2⟩ : ∃ b, nameOk x.model 40 = b := ⟨_, rfl⟩
  obtain ⟨b3, h3⟩ : ∃ b, nameOk x.revision 8 = b := ⟨_, rfl⟩
  obtain ⟨b4, h4⟩ : ∃ b, nameOk x.name 223 = b := ⟨_, rfl⟩
  have hbb : b = (((b1 && b2) && b3) && b4) := by rw [← hb]; unfold ctlOk; rw [h1, h2, h3, h4]
  have H1 := Lib.hid h1; have H2 := Lib.hid h2; have H3 := Lib.hid h3; have H4 := Lib.hid h4; have HBB := Lib.hid hbb
  clear h1 h2 h3 h4 hbb hb hlen
  obtain ⟨W, hW⟩ : ∃ W, W = w.alloc (.cells (Ctl.cells x).toArray 38) := ⟨_, rfl⟩
  have BXn : W.heap[w.heap.size]? = some (.cells (Ctl.cells x).toArray 38 (0, 0)) := by rw [hW]; exact heap_alloc_new w _
  have BX := Lib.hid BXn
  have D := Lib.hid (show Below w.heap.size w W by rw [hW]; exact gr_alloc w _)
  have c22 : W.cell? ⟨w.heap.size, 22, none⟩ = some (.string (strOf x.serial)) := (cell_of_row _ _ _ _ _ _ BXn).trans rfl; have c23 : W.cell? ⟨w.heap.size, 23, none⟩ = some (.string (strOf x.model)) := (cell_of_row _ _ _ _ _ _ BXn).trans rfl; have c24 : W.cell? ⟨w.heap.size, 24, none⟩ = some (.string (strOf x.revision)) := (cell_of_row _ _ _ _ _ _ BXn).trans rfl; have c25 : W.cell? ⟨w.heap.size, 25, none⟩ = some (.string (strOf x.name)) := (cell_of_row _ _ _ _ _ _ BXn).trans rfl
  have HW := Lib.hid hW; clear hW BXn
  cases b1
  · go_enter Tryd.func68, Tryd.ntmps68
    go_upto_region 1 with (fail)
    rw [← HW.out]
    go_wp2_with (first
      | (go_at_call 127; go_loud ((with_reducible refine (rname_lit _ 20 _ _ ⟨20, rfl, H1.out⟩ (by have := HLEN.out; omega)).mono ?_); rintro r wn ⟨rfl, hw⟩; replace D := Lib.hid (gr_tr D.out hw); have BXn := blk_below BX.out hw; replace BX := Lib.hid BXn; clear hw; have c23 : wn.cell? ⟨w.heap.size, 23, none⟩ = some (.string (strOf x.model)) := (cell_of_row _ _ _ _ _ _ BXn).trans rfl; have c24 : wn.cell? ⟨w.heap.size, 24, none⟩ = some (.string (strOf x.revision)) := (cell_of_row _ _ _ _ _ _ BXn).trans rfl; have c25 : wn.cell? ⟨w.heap.size, 25, none⟩ = some (.string (strOf x.name)) := (cell_of_row _ _ _ _ _ _ BXn).trans rfl))
      | (go_at_call 127; go_loud ((with_reducible refine (rname_lit _ 40 _ _ ⟨40, rfl, H2.out⟩ (by have := HLEN.out; omega)).mono ?_); rintro r wn ⟨rfl, hw⟩; replace D := Lib.hid (gr_tr D.out hw); have BXn := blk_below BX.out hw; replace BX := Lib.hid BXn; clear hw; have c24 : wn.cell? ⟨w.heap.size, 24, none⟩ = some (.string (strOf x.revision)) := (cell_of_row _ _ _ _ _ _ BXn).trans rfl; have c25 : wn.cell? ⟨w.heap.size, 25, none⟩ = some (.string (strOf x.name)) := (cell_of_row _ _ _ _ _ _ BXn).trans rfl))
      | (go_at_call 127; go_loud ((with_reducible refine (rname_lit _ 8 _ _ ⟨8, rfl, H3.out⟩ (by have := HLEN.out; omega)).mono ?_); rintro r wn ⟨rfl, hw⟩; replace D := Lib.hid (gr_tr D.out hw); have BXn := blk_below BX.out hw; replace BX := Lib.hid BXn; clear hw; have c25 : wn.cell? ⟨w.heap.size, 25, none⟩ = some (.string (strOf x.name)) := (cell_of_row _ _ _ _ _ _ BXn).trans rfl))
      | (go_at_call 127; go_loud ((with_reducible refine (rname_lit _ 223 _ _ ⟨223, rfl, H4.out⟩ (by have := HLEN.out; omega)).mono ?_); rintro r wn ⟨rfl, hw⟩; replace D := Lib.hid (gr_tr D.out hw); have BXn := blk_below BX.out hw; replace BX := Lib.hid BXn; clear hw; skip)))
    go_ret
    exact ⟨by rw [HBB.out]; rfl, D.out⟩
  · cases b2
    · go_enter Tryd.func68, Tryd.ntmps68
      go_upto_region 1 with (fail)
      rw [← HW.out]
      go_wp2_with (first
        | (go_at_call 127; go_loud ((with_reducible refine (rname_lit _ 20 _ _ ⟨20, rfl, H1.out⟩ (by have := HLEN.out; omega)).mono ?_); rintro r wn ⟨rfl, hw⟩; replace D := Lib.hid (gr_tr D.out hw); have BXn := blk_below BX.out hw; replace BX := Lib.hid BXn; clear hw; have c23 : wn.cell? ⟨w.heap.size, 23, none⟩ = some (.string (strOf x.model)) := (cell_of_row _ _ _ _ _ _ BXn).trans rfl; have c24 : wn.cell? ⟨w.heap.size, 24, none⟩ = some (.string (strOf x.revision)) := (cell_of_row _ _ _ _ _ _ BXn).trans rfl; have c25 : wn.cell? ⟨w.heap.size, 25, none⟩ = some (.string (strOf x.name)) := (cell_of_row _ _ _ _ _ _ BXn).trans rfl))
        | (go_at_call 127; go_loud ((with_reducible refine (rname_lit _ 40 _ _ ⟨40, rfl, H2.out⟩ (by have := HLEN.out; omega)).mono ?_); rintro r wn ⟨rfl, hw⟩; replace D := Lib.hid (gr_tr D.out hw); have BXn := blk_below BX.out hw; replace BX := Lib.hid BXn; clear hw; have c24 : wn.cell? ⟨w.heap.size, 24, none⟩ = some (.string (strOf x.revision)) := (cell_of_row _ _ _ _ _ _ BXn).trans rfl; have c25 : wn.cell? ⟨w.heap.size, 25, none⟩ = some (.string (strOf x.name)) := (cell_of_row _ _ _ _ _ _ BXn).trans rfl))
        | (go_at_call 127; go_loud ((with_reducible refine (rname_lit _ 8 _ _ ⟨8, rfl, H3.out⟩ (by have := HLEN.out; omega)).mono ?_); rintro r wn ⟨rfl, hw⟩; replace D := Lib.hid (gr_tr D.out hw); have BXn := blk_below BX.out hw; replace BX := Lib.hid BXn; clear hw; have c25 : wn.cell? ⟨w.heap.size, 25, none⟩ = some (.string (strOf x.name)) := (cell_of_row _ _ _ _ _ _ BXn).trans rfl))
        | (go_at_call 127; go_loud ((with_reducible refine (rname_lit _ 223 _ _ ⟨223, rfl, H4.out⟩ (by have := HLEN.out; omega)).mono ?_); rintro r wn ⟨rfl, hw⟩; replace D := Lib.hid (gr_tr D.out hw); have BXn := blk_below BX.out hw; replace BX := Lib.hid BXn; clear hw; skip)))
      go_ret
      exact ⟨by rw [HBB.out]; rfl, D.out⟩
    · cases b3
      · go_enter Tryd.func68, Tryd.ntmps68
        go_upto_region 1 with (fail)
        rw [← HW.out]
        go_wp2_with (first
          | (go_at_call 127; go_loud ((with_reducible refine (rname_lit _ 20 _ _ ⟨20, rfl, H1.out⟩ (by have := HLEN.out; omega)).mono ?_); rintro r wn ⟨rfl, hw⟩; replace D := Lib.hid (gr_tr D.out hw); have BXn := blk_below BX.out hw; replace BX := Lib.hid BXn; clear hw; have c23 : wn.cell? ⟨w.heap.size, 23, none⟩ = some (.string (strOf x.model)) := (cell_of_row _ _ _ _ _ _ BXn).trans rfl; have c24 : wn.cell? ⟨w.heap.size, 24, none⟩ = some (.string (strOf x.revision)) := (cell_of_row _ _ _ _ _ _ BXn).trans rfl; have c25 : wn.cell? ⟨w.heap.size, 25, none⟩ = some (.string (strOf x.name)) := (cell_of_row _ _ _ _ _ _ BXn).trans rfl))
          | (go_at_call 127; go_loud ((with_reducible refine (rname_lit _ 40 _ _ ⟨40, rfl, H2.out⟩ (by have := HLEN.out; omega)).mono ?_); rintro r wn ⟨rfl, hw⟩; replace D := Lib.hid (gr_tr D.out hw); have BXn := blk_below BX.out hw; replace BX := Lib.hid BXn; clear hw; have c24 : wn.cell? ⟨w.heap.size, 24, none⟩ = some (.string (strOf x.revision)) := (cell_of_row _ _ _ _ _ _ BXn).trans rfl; have c25 : wn.cell? ⟨w.heap.size, 25, none⟩ = some (.string (strOf x.name)) := (cell_of_row _ _ _ _ _ _ BXn).trans rfl))
          | (go_at_call 127; go_loud ((with_reducible refine (rname_lit _ 8 _ _ ⟨8, rfl, H3.out⟩ (by have := HLEN.out; omega)).mono ?_); rintro r wn ⟨rfl, hw⟩; replace D := Lib.hid (gr_tr D.out hw); have BXn := blk_below BX.out hw; replace BX := Lib.hid BXn; clear hw; have c25 : wn.cell? ⟨w.heap.size, 25, none⟩ = some (.string (strOf x.name)) := (cell_of_row _ _ _ _ _ _ BXn).trans rfl))
          | (go_at_call 127; go_loud ((with_reducible refine (rname_lit _ 223 _ _ ⟨223, rfl, H4.out⟩ (by have := HLEN.out; omega)).mono ?_); rintro r wn ⟨rfl, hw⟩; replace D := Lib.hid (gr_tr D.out hw); have BXn := blk_below BX.out hw; replace BX := Lib.hid BXn; clear hw; skip)))
        go_ret
        exact ⟨by rw [HBB.out]; rfl, D.out⟩
      · cases b4
        · go_enter Tryd.func68, Tryd.ntmps68
          go_upto_region 1 with (fail)
          rw [← HW.out]
          go_wp2_with (first
            | (go_at_call 127; go_loud ((with_reducible refine (rname_lit _ 20 _ _ ⟨20, rfl, H1.out⟩ (by have := HLEN.out; omega)).mono ?_); rintro r wn ⟨rfl, hw⟩; replace D := Lib.hid (gr_tr D.out hw); have BXn := blk_below BX.out hw; replace BX := Lib.hid BXn; clear hw; have c23 : wn.cell? ⟨w.heap.size, 23, none⟩ = some (.string (strOf x.model)) := (cell_of_row _ _ _ _ _ _ BXn).trans rfl; have c24 : wn.cell? ⟨w.heap.size, 24, none⟩ = some (.string (strOf x.revision)) := (cell_of_row _ _ _ _ _ _ BXn).trans rfl; have c25 : wn.cell? ⟨w.heap.size, 25, none⟩ = some (.string (strOf x.name)) := (cell_of_row _ _ _ _ _ _ BXn).trans rfl))
            | (go_at_call 127; go_loud ((with_reducible refine (rname_lit _ 40 _ _ ⟨40, rfl, H2.out⟩ (by have := HLEN.out; omega)).mono ?_); rintro r wn ⟨rfl, hw⟩; replace D := Lib.hid (gr_tr D.out hw); have BXn := blk_below BX.out hw; replace BX := Lib.hid BXn; clear hw; have c24 : wn.cell? ⟨w.heap.size, 24, none⟩ = some (.string (strOf x.revision)) := (cell_of_row _ _ _ _ _ _ BXn).trans rfl; have c25 : wn.cell? ⟨w.heap.size, 25, none⟩ = some (.string (strOf x.name)) := (cell_of_row _ _ _ _ _ _ BXn).trans rfl))
            | (go_at_call 127; go_loud ((with_reducible refine (rname_lit _ 8 _ _ ⟨8, rfl, H3.out⟩ (by have := HLEN.out; omega)).mono ?_); rintro r wn ⟨rfl, hw⟩; replace D := Lib.hid (gr_tr D.out hw); have BXn := blk_below BX.out hw; replace BX := Lib.hid BXn; clear hw; have c25 : wn.cell? ⟨w.heap.size, 25, none⟩ = some (.string (strOf x.name)) := (cell_of_row _ _ _ _ _ _ BXn).trans rfl))
            | (go_at_call 127; go_loud ((with_reducible refine (rname_lit _ 223 _ _ ⟨223, rfl, H4.out⟩ (by have := HLEN.out; omega)).mono ?_); rintro r wn ⟨rfl, hw⟩; replace D := Lib.hid (gr_tr D.out hw); have BXn := blk_below BX.out hw; replace BX := Lib.hid BXn; clear hw; skip)))
          go_ret
          exact ⟨by rw [HBB.out]; rfl, D.out⟩
        · go_enter Tryd.func68, Tryd.ntmps68
          go_upto_region 1 with (fail)
          rw [← HW.out]
          go_wp2_with (first
            | (go_at_call 127; go_loud ((with_reducible refine (rname_lit _ 20 _ _ ⟨20, rfl, H1.out⟩ (by have := HLEN.out; omega)).mono ?_); rintro r wn ⟨rfl, hw⟩; replace D := Lib.hid (gr_tr D.out hw); have BXn := blk_below BX.out hw; replace BX := Lib.hid BXn; clear hw; have c23 : wn.cell? ⟨w.heap.size, 23, none⟩ = some (.string (strOf x.model)) := (cell_of_row _ _ _ _ _ _ BXn).trans rfl; have c24 : wn.cell? ⟨w.heap.size, 24, none⟩ = some (.string (strOf x.revision)) := (cell_of_row _ _ _ _ _ _ BXn).trans rfl; have c25 : wn.cell? ⟨w.heap.size, 25, none⟩ = some (.string (strOf x.name)) := (cell_of_row _ _ _ _ _ _ BXn).trans rfl))
            | (go_at_call 127; go_loud ((with_reducible refine (rname_lit _ 40 _ _ ⟨40, rfl, H2.out⟩ (by have := HLEN.out; omega)).mono ?_); rintro r wn ⟨rfl, hw⟩; replace D := Lib.hid (gr_tr D.out hw); have BXn := blk_below BX.out hw; replace BX := Lib.hid BXn; clear hw; have c24 : wn.cell? ⟨w.heap.size, 24, none⟩ = some (.string (strOf x.revision)) := (cell_of_row _ _ _ _ _ _ BXn).trans rfl; have c25 : wn.cell? ⟨w.heap.size, 25, none⟩ = some (.string (strOf x.name)) := (cell_of_row _ _ _ _ _ _ BXn).trans rfl))
            | (go_at_call 127; go_loud ((with_reducible refine (rname_lit _ 8 _ _ ⟨8, rfl, H3.out⟩ (by have := HLEN.out; omega)).mono ?_); rintro r wn ⟨rfl, hw⟩; replace D := Lib.hid (gr_tr D.out hw); have BXn := blk_below BX.out hw; replace BX := Lib.hid BXn; clear hw; have c25 : wn.cell? ⟨w.heap.size, 25, none⟩ = some (.string (strOf x.name)) := (cell_of_row _ _ _ _ _ _ BXn).trans rfl))
            | (go_at_call 127; go_loud ((with_reducible refine (rname_lit _ 223 _ _ ⟨223, rfl, H4.out⟩ (by have := HLEN.out; omega)).mono ?_); rintro r wn ⟨rfl, hw⟩; replace D := Lib.hid (gr_tr D.out hw); have BXn := blk_below BX.out hw; replace BX := Lib.hid BXn; clear hw; skip)))
          go_ret
          exact ⟨by rw [HBB.out]; rfl, D.out⟩
end Go.Proofs.YthnnopjakpjoeaaDoor
