/- Package logpage: the page of an error log. -/
import Derived.Test.YthnnopjakpjoeaaDoorLogF
import Derived.Test.YthnnopjakpjoeaaDoorConcat
namespace Go.Proofs.YthnnopjakpjoeaaDoor
open Go.RowKit Lg
set_option linter.unusedVariables false
set_option linter.unusedSimpArgs false
namespace Lg
def pgB (s : Nat) (ls : List (List (BitVec 8))) : List (BitVec 8) := Lay.lay (List.replicate (64 * s) 0#8) 0 (ls.flatten.take (64 * s))
theorem flat64 {ls : List (List (BitVec 8))} (h : ∀ (i : Nat) (l : List (BitVec 8)), ls[i]? = some l → l.length = 64) : ls.flatten.length = 64 * ls.length := by
  induction ls with
  | nil => rfl
  | cons l ls ih =>
    rw [List.flatten_cons, List.length_append, h 0 l rfl, ih (fun i m hm => h (i + 1) m hm), List.length_cons]; omega
end Lg
theorem Page_nil (w : World) :
    Calls Tryd.prog 29 #[.pointer none] w fun e w' => e = .returned (.slice none 0 0) ∧ w = w' := by
  go_enter Tryd.func29, Tryd.ntmps29
  go_wp2
  go_ret
  exact ⟨rfl, rfl⟩
set_option maxHeartbeats 1600000 in
set_option maxRecDepth 20000 in
theorem Page_ok (p : Nat) (ls : List (List (BitVec 8))) (c : BitVec 64) (s : Nat) (lv : Value) (vs : List Value) (B : List (BitVec 8)) (w : World) (h : ErrAt w p ls c s lv vs) (hl : ls.length ≤ 100) (hs : s ≤ 64) (hB : pgB s ls = B) :
    Calls Tryd.prog 29 #[.pointer (some ⟨p, 0, none⟩)] w fun e w' => ∃ u, e = .returned u ∧ BytesV w' u B ∧ Below w.heap.size w w' := by
  have H := Lib.hid h
  have P := Lib.hid h.parts
  have FL := Lib.hid (show ls.flatten.length ≤ 140737488355328 by rw [flat64 (fun i l hi => (h.el i l hi).1)]; omega)
  obtain ⟨al, cl, rfl⟩ := own_shape h.own
  have p0 : w.cell? ⟨p, 0, none⟩ = some (.slice al ls.length cl) := (cell_of_row _ _ 0 _ _ _ h.blk).trans rfl
  have p2 : w.cell? ⟨p, 2, none⟩ = some (.int .i64 (s : Int)) := (cell_of_row _ _ 2 _ _ _ h.blk).trans rfl
  obtain ⟨N, hN⟩ : ∃ N, 64 * s = N := ⟨_, rfl⟩
  have hmul : (64 : Int) * (s : Int) = (N : Int) := by omega
  have hN2 : (N : Int) ≤ 4096 := by omega
  have HB := Lib.hid (show Lay.lay (List.replicate N 0#8) 0 (ls.flatten.take N) = B by rw [← hN]; exact hB)
  have HN := Lib.hid (show N ≤ 4096 by omega)
  clear h hl hs hB hN
  go_enter Tryd.func29, Tryd.ntmps29
  go_upto_region 4 with (refine make_law bytesOk rfl _ _ rfl w.heap.size .i64 .i64 N N N rfl rfl rfl rfl (by have := HN.out; omega) (by have := HN.out; omega) (Nat.le_refl _) ?_; intro w2 hown hgrow; rw [by8_made] at hown; have O2 := Lib.hid hown; have B2 := Lib.hid ((Below.refl w.heap.size w).grown hgrow (Nat.le_refl _) (by intro k hk; cases hk)); clear hown hgrow)
  have E2 := Lib.hid (H.out.below B2.out)
  have x0 : w2.cell? ⟨p, 0, none⟩ = some (.slice al ls.length cl) := (cell_of_row _ _ 0 _ _ _ E2.out.blk).trans rfl
  go_wp2_with (first
    | (go_at_call 82; go_loud (refine (Concat_any _ ls _ (P.out.below B2.out) FL.out).mono ?_; rintro r w3 ⟨u, rfl, hu, hw⟩; have U := Lib.hid (BytesV.of_own hu); have O3 := Lib.hid (own_below O2.out hw); have B3 := Lib.hid (gr_tr B2.out hw); clear hu hw))
    | (refine copy_min rfl (.tmp 12) (.tmp 18) rfl w.heap.size w.heap.size N N (List.replicate N 0#8) ls.flatten rfl _ rfl O3.out U.out ?_; intro rr w4 hown hgrow; rw [HB.out] at hown; have O4 := Lib.hid hown; have B4 := Lib.hid (B3.out.grown hgrow B3.out.size (fun k hk => by cases hk; exact Nat.le_refl _)); clear hown hgrow))
  go_ret
  have BL : B.length = N := by have := O4.out.1; rwa [by8_length, Nat.mul_one] at this
  have VB := BytesV.of_own (l := B) (by have := O4.out; rwa [← BL] at this)
  rw [BL] at VB
  exact ⟨_, rfl, VB, B4.out⟩
end Go.Proofs.YthnnopjakpjoeaaDoor
