/- The walks of slices.ContainsFunc at bytes, for each predicate that the program hands to it; a reader's Zeros. -/
import Derived.Test.YteicmbapipnbjaaDoorWireF
namespace Go.Proofs.YteicmbapipnbjaaDoor
open Go.RowKit
set_option linter.unusedVariables false
set_option linter.unusedSimpArgs false
theorem any_take {α : Type} (p : α → Bool) (l : List α) (k : Nat) (x : α) (h : l[k]? = some x) : (l.take (k + 1)).any p = ((l.take k).any p || p x) := by
  obtain ⟨hk, rfl⟩ := List.getElem?_eq_some_iff.1 h
  rw [List.take_succ_eq_append_getElem hk, List.any_append]; simp
theorem any_hit {α : Type} (p : α → Bool) (l : List α) (k : Nat) (x : α) (h : l[k]? = some x) (hp : p x = true) : l.any p = true := by
  obtain ⟨hk, rfl⟩ := List.getElem?_eq_some_iff.1 h
  exact List.any_eq_true.2 ⟨_, List.getElem_mem hk, hp⟩
def nonzero (x : BitVec 8) : Bool := uv x != 0
theorem pred_zeros (x : BitVec 8) (b : Bool) (w : World) (hb : nonzero x = b) : Calls Tryd.prog 65 #[.int .u8 (uv x)] w fun e w' => e = .returned (.bool b) ∧ w = w' := by
  subst hb
  unfold nonzero
  go_enter Tryd.func65, Tryd.ntmps65
  go_wp2
  go_ret
  exact ⟨rfl, rfl⟩
theorem index_zeros (v : Value) (l : List (BitVec 8)) (w : World) (hv : BytesV w v l) :
    Calls Tryd.prog 66 #[v, .func (.func 65) #[] #[]] w fun e w' => (∃ n : Int, e = .returned (.int .i64 n) ∧ decide (0 ≤ n) = l.any nonzero) ∧ w = w' := by
  obtain ⟨a, c, rfl, hn, hc, hm, hrow⟩ := hv
  have HROW := Lib.hid hrow; clear hrow
  have hm' : l.length ≤ 9223372036854775807 := by omega
  go_enter Tryd.func66, Tryd.ntmps66
  go_wp2
  go_loop [8] (fun i => ∃ k : Nat, k ≤ l.length ∧ i = .int .i64 k ∧ Hid ((l.take k).any nonzero = false)) (fun i => l.length - (intOf i).toNat)
  case atStart => exact ⟨0, by omega, rfl, rfl⟩
  case round =>
    obtain ⟨k, hk, rfl, hE⟩ := hrel
    by_cases hlt : k < l.length
    · obtain ⟨x, hx⟩ : ∃ x, l[k]? = some x := ⟨l[k], List.getElem?_eq_getElem hlt⟩
      obtain ⟨b, o, rfl, hcell⟩ := HROW.out.at (i := k) (v := .int .u8 (uv x)) (by rw [by8_get, hx]; rfl)
      obtain ⟨z, hz⟩ : ∃ z, nonzero x = z := ⟨_, rfl⟩
      have HS := Lib.hid (any_take nonzero l k x hx)
      have HH := Lib.hid (any_hit nonzero l k x hx)
      have HZ := Lib.hid hz
      clear hx hz
      cases z
      · go_wp2_with (go_at_call 65; refine (pred_zeros _ _ _ HZ.out).mono ?_; rintro e w' ⟨rfl, rfl⟩)
        go_round
        case rel => exact ⟨k + 1, by omega, by go_num, by rw [HS.out, hE.out, HZ.out]; rfl⟩
        case measure => simp [intOf]; omega
      · go_wp2_with (go_at_call 65; refine (pred_zeros _ _ _ HZ.out).mono ?_; rintro e w' ⟨rfl, rfl⟩)
        go_ret
        exact ⟨⟨_, rfl, by rw [HH.out HZ.out]; simp⟩, rfl⟩
    · obtain rfl : k = l.length := by omega
      go_wp2
      go_ret
      have h1 := hE.out
      rw [List.take_length] at h1
      exact ⟨⟨-1, rfl, by rw [h1]; rfl⟩, rfl⟩
theorem contains_zeros (v : Value) (l : List (BitVec 8)) (b : Bool) (w : World) (hv : BytesV w v l) (hb : l.any nonzero = b) :
    Calls Tryd.prog 47 #[v, .func (.func 65) #[] #[]] w fun e w' => e = .returned (.bool b) ∧ w = w' := by
  subst hb
  have V := Lib.hid hv; clear hv
  go_enter Tryd.func47, Tryd.ntmps47
  go_wp2_with (go_at_call 66; refine (index_zeros _ l _ V.out).mono ?_; rintro e w' ⟨⟨n, rfl, hn⟩, rfl⟩; have HN := Lib.hid hn; clear hn)
  go_ret
  exact ⟨by rw [← HN.out]; rfl, rfl⟩
def notPlain (x : BitVec 8) : Bool := !Wire.plainB x
theorem plain_any (x : BitVec 8) (b : Bool) (w : World) (hb : Wire.plainB x = b) : Calls Tryd.prog 49 #[.int .u8 (uv x)] w fun e w' => e = .returned (.bool b) ∧ w = w' := by
  obtain ⟨b1, h1⟩ : ∃ z, decide (32 ≤ uv x) = z := ⟨_, rfl⟩
  obtain ⟨b2, h2⟩ : ∃ z, decide (uv x ≤ 126) = z := ⟨_, rfl⟩
  have hr : b = (b1 && b2) := by rw [← hb, ← h1, ← h2]; rfl
  have h1' : decide (uv x ≥ 32) = b1 := h1
  have HR := Lib.hid hr; clear hr hb h1
  cases b1 <;> cases b2
  all_goals
    go_enter Tryd.func49, Tryd.ntmps49
    go_wp2
    go_ret
    exact ⟨by rw [HR.out]; rfl, rfl⟩
theorem pred_pad (x : BitVec 8) (b : Bool) (w : World) (hb : notPlain x = b) : Calls Tryd.prog 48 #[.int .u8 (uv x)] w fun e w' => e = .returned (.bool b) ∧ w = w' := by
  obtain ⟨c, hc⟩ : ∃ z, Wire.plainB x = z := ⟨_, rfl⟩
  have hr : b = !c := by rw [← hb, ← hc]; rfl
  have HC := Lib.hid hc; have HR := Lib.hid hr; clear hr hb hc
  cases c
  all_goals
    go_enter Tryd.func48, Tryd.ntmps48
    go_wp2_with (go_at_call 49; refine (plain_any _ _ _ HC.out).mono ?_; rintro e w' ⟨rfl, rfl⟩)
    go_ret
    exact ⟨by rw [HR.out]; rfl, rfl⟩
theorem index_pad (v : Value) (l : List (BitVec 8)) (w : World) (hv : BytesV w v l) :
    Calls Tryd.prog 66 #[v, .func (.func 48) #[] #[]] w fun e w' => (∃ n : Int, e = .returned (.int .i64 n) ∧ decide (0 ≤ n) = l.any notPlain) ∧ w = w' := by
  obtain ⟨a, c, rfl, hn, hc, hm, hrow⟩ := hv
  have HROW := Lib.hid hrow; clear hrow
  have hm' : l.length ≤ 9223372036854775807 := by omega
  go_enter Tryd.func66, Tryd.ntmps66
  go_wp2
  go_loop [8] (fun i => ∃ k : Nat, k ≤ l.length ∧ i = .int .i64 k ∧ Hid ((l.take k).any notPlain = false)) (fun i => l.length - (intOf i).toNat)
  case atStart => exact ⟨0, by omega, rfl, rfl⟩
  case round =>
    obtain ⟨k, hk, rfl, hE⟩ := hrel
    by_cases hlt : k < l.length
    · obtain ⟨x, hx⟩ : ∃ x, l[k]? = some x := ⟨l[k], List.getElem?_eq_getElem hlt⟩
      obtain ⟨b, o, rfl, hcell⟩ := HROW.out.at (i := k) (v := .int .u8 (uv x)) (by rw [by8_get, hx]; rfl)
      obtain ⟨z, hz⟩ : ∃ z, notPlain x = z := ⟨_, rfl⟩
      have HS := Lib.hid (any_take notPlain l k x hx)
      have HH := Lib.hid (any_hit notPlain l k x hx)
      have HZ := Lib.hid hz
      clear hx hz
      cases z
      · go_wp2_with (go_at_call 48; refine (pred_pad _ _ _ HZ.out).mono ?_; rintro e w' ⟨rfl, rfl⟩)
        go_round
        case rel => exact ⟨k + 1, by omega, by go_num, by rw [HS.out, hE.out, HZ.out]; rfl⟩
        case measure => simp [intOf]; omega
      · go_wp2_with (go_at_call 48; refine (pred_pad _ _ _ HZ.out).mono ?_; rintro e w' ⟨rfl, rfl⟩)
        go_ret
        exact ⟨⟨_, rfl, by rw [HH.out HZ.out]; simp⟩, rfl⟩
    · obtain rfl : k = l.length := by omega
      go_wp2
      go_ret
      have h1 := hE.out
      rw [List.take_length] at h1
      exact ⟨⟨-1, rfl, by rw [h1]; rfl⟩, rfl⟩
theorem contains_pad (v : Value) (l : List (BitVec 8)) (b : Bool) (w : World) (hv : BytesV w v l) (hb : l.any notPlain = b) :
    Calls Tryd.prog 47 #[v, .func (.func 48) #[] #[]] w fun e w' => e = .returned (.bool b) ∧ w = w' := by
  subst hb
  have V := Lib.hid hv; clear hv
  go_enter Tryd.func47, Tryd.ntmps47
  go_wp2_with (go_at_call 66; refine (index_pad _ l _ V.out).mono ?_; rintro e w' ⟨⟨n, rfl, hn⟩, rfl⟩; have HN := Lib.hid hn; clear hn)
  go_ret
  exact ⟨by rw [← HN.out]; rfl, rfl⟩
theorem pred_text (x : BitVec 8) (b : Bool) (w : World) (hb : notPlain x = b) : Calls Tryd.prog 52 #[.int .u8 (uv x)] w fun e w' => e = .returned (.bool b) ∧ w = w' := by
  obtain ⟨c, hc⟩ : ∃ z, Wire.plainB x = z := ⟨_, rfl⟩
  have hr : b = !c := by rw [← hb, ← hc]; rfl
  have HC := Lib.hid hc; have HR := Lib.hid hr; clear hr hb hc
  cases c
  all_goals
    go_enter Tryd.func52, Tryd.ntmps52
    go_wp2_with (go_at_call 49; refine (plain_any _ _ _ HC.out).mono ?_; rintro e w' ⟨rfl, rfl⟩)
    go_ret
    exact ⟨by rw [HR.out]; rfl, rfl⟩
theorem index_text (v : Value) (l : List (BitVec 8)) (w : World) (hv : BytesV w v l) :
    Calls Tryd.prog 66 #[v, .func (.func 52) #[] #[]] w fun e w' => (∃ n : Int, e = .returned (.int .i64 n) ∧ decide (0 ≤ n) = l.any notPlain) ∧ w = w' := by
  obtain ⟨a, c, rfl, hn, hc, hm, hrow⟩ := hv
  have HROW := Lib.hid hrow; clear hrow
  have hm' : l.length ≤ 9223372036854775807 := by omega
  go_enter Tryd.func66, Tryd.ntmps66
  go_wp2
  go_loop [8] (fun i => ∃ k : Nat, k ≤ l.length ∧ i = .int .i64 k ∧ Hid ((l.take k).any notPlain = false)) (fun i => l.length - (intOf i).toNat)
  case atStart => exact ⟨0, by omega, rfl, rfl⟩
  case round =>
    obtain ⟨k, hk, rfl, hE⟩ := hrel
    by_cases hlt : k < l.length
    · obtain ⟨x, hx⟩ : ∃ x, l[k]? = some x := ⟨l[k], List.getElem?_eq_getElem hlt⟩
      obtain ⟨b, o, rfl, hcell⟩ := HROW.out.at (i := k) (v := .int .u8 (uv x)) (by rw [by8_get, hx]; rfl)
      obtain ⟨z, hz⟩ : ∃ z, notPlain x = z := ⟨_, rfl⟩
      have HS := Lib.hid (any_take notPlain l k x hx)
      have HH := Lib.hid (any_hit notPlain l k x hx)
      have HZ := Lib.hid hz
      clear hx hz
      cases z
      · go_wp2_with (go_at_call 52; refine (pred_text _ _ _ HZ.out).mono ?_; rintro e w' ⟨rfl, rfl⟩)
        go_round
        case rel => exact ⟨k + 1, by omega, by go_num, by rw [HS.out, hE.out, HZ.out]; rfl⟩
        case measure => simp [intOf]; omega
      · go_wp2_with (go_at_call 52; refine (pred_text _ _ _ HZ.out).mono ?_; rintro e w' ⟨rfl, rfl⟩)
        go_ret
        exact ⟨⟨_, rfl, by rw [HH.out HZ.out]; simp⟩, rfl⟩
    · obtain rfl : k = l.length := by omega
      go_wp2
      go_ret
      have h1 := hE.out
      rw [List.take_length] at h1
      exact ⟨⟨-1, rfl, by rw [h1]; rfl⟩, rfl⟩
theorem contains_text (v : Value) (l : List (BitVec 8)) (b : Bool) (w : World) (hv : BytesV w v l) (hb : l.any notPlain = b) :
    Calls Tryd.prog 47 #[v, .func (.func 52) #[] #[]] w fun e w' => e = .returned (.bool b) ∧ w = w' := by
  subst hb
  have V := Lib.hid hv; clear hv
  go_enter Tryd.func47, Tryd.ntmps47
  go_wp2_with (go_at_call 66; refine (index_text _ l _ V.out).mono ?_; rintro e w' ⟨⟨n, rfl, hn⟩, rfl⟩; have HN := Lib.hid hn; clear hn)
  go_ret
  exact ⟨by rw [← HN.out]; rfl, rfl⟩

namespace Wire
def zerosE (l : List (BitVec 8)) (k : Int) : Int := if k < 0 then 2 else if (l.length : Int) < k then 4 else if (l.take k.toNat).any nonzero then 6 else 0
end Wire
theorem Zeros_no {d : Nat} (p : Nat) (v : Value) (l : List (BitVec 8)) (n : Nat) (k er : Int) (w : World) (hp : RdAt w 99 p d v l n) (her : Wire.zerosE l k = er) (he : er ≠ 0) :
    Calls Tryd.prog 43 #[.pointer (some ⟨p, 0, none⟩), .int .i64 k] w fun e w' => e = .returned (.int .i64 er) ∧ Below w.heap.size w w' := by
  have d0 : w.cell? ⟨p, 0, none⟩ = some v := (cell_of_row _ _ 0 _ _ _ hp.blk).trans rfl
  have d1 : w.cell? ⟨p, 1, none⟩ = some (.int .i64 n) := (cell_of_row _ _ 1 _ _ _ hp.blk).trans rfl
  have P := Lib.hid hp; have PLT := Lib.hid hp.lt
  clear hp
  obtain ⟨av, nv, cv, rfl⟩ := bytes_shape P.out.bytes
  obtain ⟨W, hW⟩ : ∃ W, W = w.alloc (.cells #[.slice av nv cv, .int .i64 n] 99) := ⟨_, rfl⟩
  have hbW : Below w.heap.size w W := by subst hW; exact gr_alloc _ _
  have hqW : RdAt W 99 w.heap.size d (.slice av nv cv) l n := by
    subst hW
    exact ⟨heap_alloc_new _ _, P.out.bytes.below (gr_alloc _ _), P.out.small, P.out.old, Nat.le_trans P.out.le (Nat.le_of_lt PLT.out)⟩
  have BW := Lib.hid hbW; have QW := Lib.hid hqW; have HW := Lib.hid hW
  clear hbW hqW hW
  unfold Wire.zerosE at her
  by_cases h1 : k < 0
  · rw [if_pos h1] at her
    subst her
    clear he
    go_enter Tryd.func43, Tryd.ntmps43
    go_upto_region 2 with (go_at_call 58; refine (state_some p _).mono ?_; rintro e w' ⟨rfl, rfl⟩)
    rw [← HW.out]
    clear d0 d1
    go_wp2_with (go_at_call 64; refine (take_arg _ k _ h1).mono ?_; rintro e w' ⟨rfl, rfl⟩)
    go_ret
    exact ⟨rfl, BW.out⟩
  · rw [if_neg h1] at her
    by_cases h2 : (l.length : Int) < k
    · rw [if_pos h2] at her
      subst her
      have H2 := Lib.hid h2
      clear he h2
      go_enter Tryd.func43, Tryd.ntmps43
      go_upto_region 2 with (go_at_call 58; refine (state_some p _).mono ?_; rintro e w' ⟨rfl, rfl⟩)
      rw [← HW.out]
      clear d0 d1
      go_wp2_with (go_at_call 64; refine (take_short 99 _ _ l n k _ QW.out H2.out).mono ?_; rintro e w' ⟨rfl, rfl⟩)
      go_ret
      exact ⟨rfl, BW.out⟩
    · rw [if_neg h2] at her
      obtain ⟨j, rfl⟩ := Int.eq_ofNat_of_zero_le (show 0 ≤ k by omega)
      rw [Int.toNat_natCast] at her
      have hj : j ≤ l.length := by omega
      by_cases h3 : (l.take j).any nonzero = true
      · rw [if_pos h3] at her
        subst her
        have H3 := Lib.hid h3; have HJ := Lib.hid hj
        clear he h3 hj h1 h2
        go_enter Tryd.func43, Tryd.ntmps43
        go_upto_region 2 with (go_at_call 58; refine (state_some p _).mono ?_; rintro e w' ⟨rfl, rfl⟩)
        rw [← HW.out]
        clear d0 d1
        go_wp2_with (first
          | (go_at_call 64; refine (take_ok 99 _ _ l n j _ QW.out HJ.out).mono ?_; rintro e w1 ⟨u, rfl, hu, -, hc⟩; have U := Lib.hid hu; have B1 := Lib.hid (chg_new hc BW.out (Nat.le_refl _)); clear hu hc)
          | (go_at_call 47; refine (contains_zeros _ _ true _ U.out H3.out).mono ?_; rintro e w' ⟨rfl, rfl⟩))
        go_ret
        exact ⟨rfl, B1.out⟩
      · rw [if_neg h3] at her
        exact absurd her.symm he
theorem Zeros_ok {d : Nat} (p : Nat) (v : Value) (l : List (BitVec 8)) (n j : Nat) (w : World) (hp : RdAt w 99 p d v l n) (hj : j ≤ l.length) (h3 : (l.take j).any nonzero = false) :
    Calls Tryd.prog 43 #[.pointer (some ⟨p, 0, none⟩), .int .i64 j] w fun e w' => e = .returned (.int .i64 0) ∧ (∃ v', RdAt w' 99 p d v' (l.drop j) (n + j)) ∧ Chg (fun b => b = p) w w' := by
  have d0 : w.cell? ⟨p, 0, none⟩ = some v := (cell_of_row _ _ 0 _ _ _ hp.blk).trans rfl
  have d1 : w.cell? ⟨p, 1, none⟩ = some (.int .i64 n) := (cell_of_row _ _ 1 _ _ _ hp.blk).trans rfl
  have P := Lib.hid hp; have PLT := Lib.hid hp.lt; have H3 := Lib.hid h3; have HJ := Lib.hid hj
  clear hp h3 hj
  obtain ⟨av, nv, cv, rfl⟩ := bytes_shape P.out.bytes
  obtain ⟨W, hW⟩ : ∃ W, W = w.alloc (.cells #[.slice av nv cv, .int .i64 n] 99) := ⟨_, rfl⟩
  have hbW : Below w.heap.size w W := by subst hW; exact gr_alloc _ _
  have hqW : RdAt W 99 w.heap.size d (.slice av nv cv) l n := by
    subst hW
    exact ⟨heap_alloc_new _ _, P.out.bytes.below (gr_alloc _ _), P.out.small, P.out.old, Nat.le_trans P.out.le (Nat.le_of_lt PLT.out)⟩
  have BW := Lib.hid hbW; have QW := Lib.hid hqW; have HW := Lib.hid hW
  clear hbW hqW hW
  go_enter Tryd.func43, Tryd.ntmps43
  go_upto_region 2 with (go_at_call 58; refine (state_some p _).mono ?_; rintro e w' ⟨rfl, rfl⟩)
  rw [← HW.out]
  clear d0 d1
  go_wp2_with (first
    | (go_at_call 64; refine (take_ok 99 _ _ l n j _ QW.out HJ.out).mono ?_; rintro e w1 ⟨u, rfl, hu, ⟨v1, hr⟩, hc⟩; have U := Lib.hid hu; have R1 := Lib.hid hr; have B1 := Lib.hid (chg_new hc BW.out (Nat.le_refl _)); clear hu hr hc; obtain ⟨a1, n1, c1, rfl⟩ := bytes_shape R1.out.bytes)
    | (go_at_call 47; refine (contains_zeros _ _ false _ U.out H3.out).mono ?_; rintro e w' ⟨rfl, rfl⟩)
    | (refine wpList_load_row rfl 99 (.tmp 5) rfl w.heap.size rfl 99 _ (0, 0) _ R1.out.blk Tryd.underlying99 rfl (by kernel_rfl) ?_)
    | (refine wpList_store_row rfl 99 (.tmp 31) (.tmp 30) rfl p _ rfl rfl 99 _ ((B1.out.block p PLT.out).trans P.out.blk) (by kernel_rfl) rfl (by simp [Value.oneCell']) ?_))
  go_ret
  have hfin := R1.out.moved ((B1.out.block p PLT.out).trans P.out.blk) P.out.le
  rw [Int.natCast_add] at hfin
  exact ⟨rfl, ⟨_, hfin⟩, (Chg.of_below B1.out).trans (Chg.setRow (B := fun b => b = p) w1 rfl _)⟩
end Go.Proofs.YteicmbapipnbjaaDoor
