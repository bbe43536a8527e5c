/- Package logpage: an error log: NewErrors, number, Add, Count. -/
import Derived.Test.YthnnopjakpjoeaaDoorLogD
import Derived.Test.YthnnopjakpjoeaaDoorPlanL
namespace Go.Proofs.YthnnopjakpjoeaaDoor
open Go.RowKit Lg
set_option linter.unusedVariables false
set_option linter.unusedSimpArgs false
/-- An error log lies in block p: its entries, the newest first; their number so far; its size. -/
structure ErrAt (w : World) (p : Nat) (ls : List (List (BitVec 8))) (c : BitVec 64) (s : Nat) (lv : Value) (vs : List Value) : Prop where
  blk : w.heap[p]? = some (.cells #[lv, .int .u64 (uv c), .int .i64 s] 167 (0, 0))
  own : w.ownsRow (p + 1) 22 1 lv ls.length vs
  el : ∀ (i : Nat) (l : List (BitVec 8)), ls[i]? = some l → l.length = 64 ∧ ∃ u, vs[i]? = some u ∧ BytesV w u l ∧ Off (fun b => b = p) u
theorem ErrAt.lt {w : World} {p : Nat} {ls : List (List (BitVec 8))} {c : BitVec 64} {s : Nat} {lv : Value} {vs : List Value} (h : ErrAt w p ls c s lv vs) : p < w.heap.size := (Array.getElem?_eq_some_iff.1 h.blk).1
theorem ErrAt.below {w w' : World} {p : Nat} {ls : List (List (BitVec 8))} {c : BitVec 64} {s : Nat} {lv : Value} {vs : List Value} (h : ErrAt w p ls c s lv vs) (hb : Below w.heap.size w w') : ErrAt w' p ls c s lv vs :=
  ⟨blk_below h.blk hb, own_below h.own hb, fun i l hl => by obtain ⟨h1, u, h2, h3, h4⟩ := h.el i l hl; exact ⟨h1, u, h2, h3.below hb, h4⟩⟩
/-- What changes elsewhere leaves it. -/
theorem ErrAt.chg {w w' : World} {p q : Nat} {ls : List (List (BitVec 8))} {c : BitVec 64} {s : Nat} {lv : Value} {vs : List Value} (h : ErrAt w p ls c s lv vs) (hc : Chg (fun b => b = q) w w') (hq : q < p) (hel : ∀ (i : Nat) (u : Value), vs[i]? = some u → Off (fun b => b = q) u) : ErrAt w' p ls c s lv vs :=
  ⟨hc.blk h.blk (by omega), own_chg h.own hc (fun g hg => by have := (h.own.lt g hg).1; omega), fun i l hl => by obtain ⟨h1, u, h2, h3, h4⟩ := h.el i l hl; exact ⟨h1, u, h2, h3.chg hc (hel i u h2), h4⟩⟩
theorem ErrAt.parts {w : World} {p : Nat} {ls : List (List (BitVec 8))} {c : BitVec 64} {s : Nat} {lv : Value} {vs : List Value} (h : ErrAt w p ls c s lv vs) : PartsV w lv ls := by
  obtain ⟨h1, h2⟩ := h.own
  rw [Nat.mul_one] at h1
  rcases h2 with ⟨e1, e2⟩ | ⟨g, cap, cur, hv, hg, hh, r1, r2, r3, r4⟩
  · have hl : ls = [] := List.length_eq_zero_iff.1 e2
    subst hl; subst e1
    exact ⟨none, 0, vs, rfl, fun _ => rfl, by simp, by simp, .inl (List.length_eq_zero_iff.1 h1), h1, fun i l hl => by simp at hl⟩
  · subst hv
    refine ⟨_, cap, vs, rfl, by simp, r1, r2, Row.of_own ⟨by rw [Nat.mul_one]; exact h1, .inr ⟨g, cap, cur, rfl, hg, hh, r1, r2, r3, r4⟩⟩, h1, fun i l hl => ?_⟩
    obtain ⟨-, u, h3, h4, -⟩ := h.el i l hl
    exact ⟨u, h3, h4⟩
theorem partsOk : ElemOk Tryd.prog 55 22 (.slice none 0 0) 1 24 :=
  ⟨Tryd.underlying55, info_parts (by kernel_rfl), rfl, by decide⟩
theorem bszP : (Tryd.prog.info? 22).map (·.size) = some 1 := by kernel_rfl
/-- 'l[:m]' of a slice of slices. -/
theorem run_uptoP (a : Option Addr) (n c m : Nat) (hm : m ≤ n) (hn : n ≤ c) (hc : c ≤ 9223372036854775807) (w' : World) :
    (Instr.slice 55 (.slice a n c) none (some (.int .i64 m)) none).run Tryd.prog w' = .ok (.slice a m c) w' := by
  have he : Tryd.prog.elem 55 = 22 := by simp [Program.elem, Tryd.underlying55]
  have ht' : Tryd.prog.underlying 55 = some (.slice (Tryd.prog.elem 55)) := by rw [he]; exact Tryd.underlying55
  have hz : (sizeOf (Tryd.prog.elem 55)).run Tryd.prog w' = .ok 1 w' := by
    rw [he]
    obtain ⟨i, hi, hi'⟩ := Option.map_eq_some_iff.1 bszP
    simp [sizeOf, typeInfo, hi, hi']
  rw [run_slice_h w' 55 a n c ht' .i64 m (by omega) (by omega), hz]
  simp only [Result.andThen, sliced, Nat.zero_mul, Nat.sub_zero, Int.toNat_natCast]
  cases a with
  | none => simp
  | some a => simp [Addr.add]
theorem NewErr_ok (s : Nat) (w : World) (h1 : 1 ≤ s) (h64 : s ≤ 64) :
    Calls Tryd.prog 25 #[.int .i64 s] w fun e w' => ∃ p, e = .returned (.tuple #[.pointer (some ⟨p, 0, none⟩), .int .i64 0]) ∧ w.heap.size ≤ p ∧ ErrAt w' p [] 0#64 s (.slice none 0 0) [] ∧ Below w.heap.size w w' := by
  have d1 : decide (s < 1) = false := decide_eq_false (by omega)
  have d2 : decide (64 < s) = false := decide_eq_false (by omega)
  have d3 : decide ((s : Int) < 1) = false := decide_eq_false (by omega)
  have d4 : decide ((64 : Int) < s) = false := decide_eq_false (by omega)
  clear h1 h64
  go_enter Tryd.func25, Tryd.ntmps25
  go_wp2
  go_ret2
  exact ⟨_, rfl, Nat.le_refl _, ⟨heap_alloc_new w _, World.ownsRow_nil _ _ _ _, fun i l hl => by simp at hl⟩, gr_alloc w _⟩
theorem NewErr_no (s : Int) (w : World) (h : s < 1 ∨ 64 < s) :
    Calls Tryd.prog 25 #[.int .i64 s] w fun e w' => e = .returned (.tuple #[.pointer none, .int .i64 2]) ∧ w = w' := by
  by_cases h1 : s < 1
  · have d3 : decide (s < 1) = true := decide_eq_true h1
    clear h h1
    go_enter Tryd.func25, Tryd.ntmps25
    go_wp2
    go_ret2
    exact ⟨rfl, rfl⟩
  · have d3 : decide (s < 1) = false := decide_eq_false h1
    have d4 : decide (64 < s) = true := decide_eq_true (by omega)
    clear h h1
    go_enter Tryd.func25, Tryd.ntmps25
    go_wp2
    go_ret2
    exact ⟨rfl, rfl⟩
theorem number_any (p : Nat) (c : Int) (w : World) (h : w.cell? ⟨p, 1, none⟩ = some (.int .u64 c)) :
    Calls Tryd.prog 81 #[.pointer (some ⟨p, 0, none⟩)] w fun e w' => e = .returned (.int .u64 c) ∧ w = w' := by
  go_enter Tryd.func81, Tryd.ntmps81
  go_wp2
  go_ret
  exact ⟨rfl, rfl⟩
theorem Count_ok (p : Nat) (ls : List (List (BitVec 8))) (c : BitVec 64) (s : Nat) (lv : Value) (vs : List Value) (w : World) (h : ErrAt w p ls c s lv vs) :
    Calls Tryd.prog 28 #[.pointer (some ⟨p, 0, none⟩)] w fun e w' => e = .returned (.int .u64 (uv c)) ∧ w = w' := by
  have C1 := Lib.hid (show w.cell? ⟨p, 1, none⟩ = some (.int .u64 (uv c)) from (cell_of_row _ _ 1 _ _ _ h.blk).trans rfl)
  clear h
  go_enter Tryd.func28, Tryd.ntmps28
  go_wp2_with (go_at_call 81; go_loud (refine (number_any p _ _ C1.out).mono ?_; rintro r w' ⟨rfl, rfl⟩))
  go_ret
  exact ⟨rfl, rfl⟩
theorem Count_nil (w : World) :
    Calls Tryd.prog 28 #[.pointer none] w fun e w' => e = .returned (.int .u64 0) ∧ w = w' := by
  go_enter Tryd.func28, Tryd.ntmps28
  go_wp2
  go_ret
  exact ⟨rfl, rfl⟩
theorem Add_nil (x : Er) (w : World) :
    Calls Tryd.prog 27 #[.pointer none, .agg (Er.cells x).toArray] w fun e w' => e = .returned (.tuple #[.int .u64 0, .int .i64 1]) ∧ Below w.heap.size w w' := by
  go_enter Tryd.func27, Tryd.ntmps27
  go_wp2
  go_ret2
  exact ⟨rfl, gr_alloc _ _⟩
namespace Lg
/-- The entry with a number. -/
def numb (x : Er) (c : BitVec 64) : Er := { x with count := c }
end Lg
theorem byte_off {w : World} {p : Nat} {u : Value} {l : List (BitVec 8)} {base : Nat} (h : w.ownsRow base 5 1 u l.length (by8 l)) (hp : p < base) : Off (fun b => b = p) u := by
  intro g o m c e hg
  have := h.lt g (by rw [e]; rfl)
  omega
theorem byte_fresh {w : World} {q : Nat} {u : Value} {l : List (BitVec 8)} {base : Nat} (h : w.ownsRow base 5 1 u l.length (by8 l)) (hp : q ≤ base) : Off (fun b => b < q) u := by
  intro g o n c e hg
  have := (h.lt g (by rw [e]; rfl)).1
  omega
theorem row_take {w : World} {ad : Option Addr} {vs : List Value} (h : Row w ad vs) (m : Nat) : Row w ad (vs.take m) := h.take m
theorem ErrAt.row {w : World} {p : Nat} {ls : List (List (BitVec 8))} {c : BitVec 64} {s : Nat} {a : Option Addr} {n k : Nat} {vs : List Value} (h : ErrAt w p ls c s (.slice a n k) vs) : Row w a vs ∧ (a = none → k = 0) ∧ ls.length ≤ k ∧ k ≤ 9223372036854775807 ∧ vs.length = ls.length := by
  obtain ⟨h1, h2⟩ := h.own
  rw [Nat.mul_one] at h1
  rcases h2 with ⟨e1, e2⟩ | ⟨g, cap, cur, hv, hg, hh, r1, r2, r3, r4⟩
  · have hl : ls = [] := List.length_eq_zero_iff.1 e2
    injection e1 with e1 e3 e4
    subst hl; subst e1; subst e4
    exact ⟨.inl (List.length_eq_zero_iff.1 h1), fun _ => rfl, by simp, by simp, h1⟩
  · injection hv with e1 e3 e4
    subst e1; subst e4
    exact ⟨Row.of_own ⟨by rw [Nat.mul_one]; exact h1, .inr ⟨g, k, cur, rfl, hg, hh, r1, r2, r3, r4⟩⟩, by simp, r1, r2, h1⟩
theorem KeepG {B : Nat → Prop} {w x x' : World} {row : Option Nat} (h : Keep B w x) (hg : x.grownBy x' row) (hr : ∀ k, row = some k → B k ∨ w.heap.size ≤ k) : Keep B w x' := by
  obtain ⟨y, rfl⟩ := h
  exact ⟨⟨x', Nat.le_trans y.size hg.size, fun k hk hn => (hg.block k (Nat.lt_of_lt_of_le hk y.size) (fun e => by rcases hr k e.symm with h | h; exact hn h; omega)).trans (y.block k hk hn)⟩, rfl⟩
theorem off_one {w : World} {v : Value} {l : List (BitVec 8)} (h : BytesV w v l) : v.oneCell' = true := by obtain ⟨a, c, rfl, _⟩ := h; rfl
set_option maxHeartbeats 6400000 in
set_option maxRecDepth 20000 in
theorem Add_no (p : Nat) (ls : List (List (BitVec 8))) (c : BitVec 64) (q : Nat) (lv : Value) (vs : List Value) (x : Er) (w : World) (h : ErrAt w p ls c (q + 1) lv vs) (hl : ls.length ≤ 100) (hq : q ≤ 63) (hb : erOk x = false) :
    Calls Tryd.prog 27 #[.pointer (some ⟨p, 0, none⟩), .agg (Er.cells x).toArray] w fun e w' => e = .returned (.tuple #[.int .u64 0, .int .i64 2]) ∧ Below w.heap.size w w' := by
  rw [show (Er.cells x).toArray = #[.int .u64 (uv x.count), .int .u16 (uv x.queue), .int .u16 (uv x.id), .int .u8 (uv x.st.typ), .int .u8 (uv x.st.code), .bool x.st.more, .bool x.st.never, .int .u16 (uv x.loc), .int .u64 (uv x.lba), .int .u32 (uv x.nsid), .int .u64 (uv x.spec)] from rfl]
  have hsz : (((q + 1 : Nat) : Int) == 0) = false := by simp; omega
  have H := Lib.hid h
  have HP := Lib.hid h.lt
  obtain ⟨al, cl, hlv⟩ : ∃ a c, lv = .slice a ls.length c := own_shape h.own
  obtain ⟨W, hW⟩ : ∃ W, W = w.alloc (.cells #[.int .u64 (uv x.count), .int .u16 (uv x.queue), .int .u16 (uv x.id), .int .u8 (uv x.st.typ), .int .u8 (uv x.st.code), .bool x.st.more, .bool x.st.never, .int .u16 (uv x.loc), .int .u64 (uv x.lba), .int .u32 (uv x.nsid), .int .u64 (uv x.spec)] 57) := ⟨_, rfl⟩
  have D := Lib.hid (show Below w.heap.size w W by rw [hW]; exact gr_alloc w _)
  have X := Lib.hid (show W.heap[w.heap.size]? = some (.cells #[.int .u64 (uv x.count), .int .u16 (uv x.queue), .int .u16 (uv x.id), .int .u8 (uv x.st.typ), .int .u8 (uv x.st.code), .bool x.st.more, .bool x.st.never, .int .u16 (uv x.loc), .int .u64 (uv x.lba), .int .u32 (uv x.nsid), .int .u64 (uv x.spec)] 57 (0, 0)) by rw [hW]; exact heap_alloc_new w _)
  have E0 := Lib.hid (h.below D.out)
  have c0 : W.cell? ⟨w.heap.size, 0, none⟩ = some (.int .u64 (uv x.count)) := (cell_of_row _ _ 0 _ _ _ X.out).trans rfl
  have f0 := frozen_of_row _ _ 0 _ _ X.out
  have p1 : W.cell? ⟨p, 1, none⟩ = some (.int .u64 (uv c)) := (cell_of_row _ _ 1 _ _ _ E0.out.blk).trans rfl
  have P1 := Lib.hid p1
  have p2 : W.cell? ⟨p, 2, none⟩ = some (.int .i64 ((q + 1 : Nat) : Int)) := (cell_of_row _ _ 2 _ _ _ E0.out.blk).trans rfl
  have HW := Lib.hid hW
  have HLV := Lib.hid hlv; have HL := Lib.hid hl; have HQ := Lib.hid hq; have HB := Lib.hid hb
  clear hW h hlv hl hq hb p1
  go_enter Tryd.func27, Tryd.ntmps27
  go_upto_region 1 with (fail)
  rw [← HW.out]
  go_upto_region 4 with (go_at_call 81; go_loud (refine (number_any p _ _ P1.out).mono ?_; rintro r w' ⟨rfl, rfl⟩))
  obtain ⟨V, hV⟩ : ∃ V, V = W.setCell ⟨w.heap.size, 0, none⟩ (.int .u64 (uv (c + 1#64))) := ⟨_, rfl⟩
  have DV := Lib.hid (show Below w.heap.size w V by rw [hV]; exact D.out.setCell (p := ⟨w.heap.size, 0, none⟩) (Nat.le_refl _) _)
  have XV := Lib.hid (show V.heap[w.heap.size]? = some (.cells #[.int .u64 (uv (c + 1#64)), .int .u16 (uv x.queue), .int .u16 (uv x.id), .int .u8 (uv x.st.typ), .int .u8 (uv x.st.code), .bool x.st.more, .bool x.st.never, .int .u16 (uv x.loc), .int .u64 (uv x.lba), .int .u32 (uv x.nsid), .int .u64 (uv x.spec)] 57 (0, 0)) by rw [hV]; exact heap_setCell_same _ _ _ _ _ _ X.out)
  have EV := Lib.hid (H.out.below DV.out)
  have HV := Lib.hid hV
  rw [← HV.out]
  clear hV c0 f0 p2 E0 P1 X HV
  have LV := Lib.hid (show p < V.heap.size from EV.out.lt)
  have ENC := fun w => EncEr_at (numb x (c + 1#64)) 2 [] w (by unfold erE; rw [show erOk (numb x (c + 1#64)) = false from HB.out]; rfl) (by unfold erR; rw [show erOk (numb x (c + 1#64)) = false from HB.out]; rfl)
  rw [show (Er.cells (numb x (c + 1#64))).toArray = #[.int .u64 (uv (c + 1#64)), .int .u16 (uv x.queue), .int .u16 (uv x.id), .int .u8 (uv x.st.typ), .int .u8 (uv x.st.code), .bool x.st.more, .bool x.st.never, .int .u16 (uv x.loc), .int .u64 (uv x.lba), .int .u32 (uv x.nsid), .int .u64 (uv x.spec)] from rfl] at ENC
  go_wp2_with (first
    | (refine wpList_load_row rfl 57 (.tmp 3) rfl w.heap.size rfl 57 #[.int .u64 (uv (c + 1#64)), .int .u16 (uv x.queue), .int .u16 (uv x.id), .int .u8 (uv x.st.typ), .int .u8 (uv x.st.code), .bool x.st.more, .bool x.st.never, .int .u16 (uv x.loc), .int .u64 (uv x.lba), .int .u32 (uv x.nsid), .int .u64 (uv x.spec)] (0, 0) _ XV.out Tryd.underlying57 rfl (by kernel_rfl) ?_)
    | (go_at_call 44; go_loud (refine (ENC _).mono ?_; rintro r w2 ⟨u, rfl, hu, hw⟩; have D2 := Lib.hid (gr_tr DV.out hw); clear hu hw)))
  go_ret2
  exact ⟨rfl, D2.out⟩
set_option maxHeartbeats 6400000 in
set_option maxRecDepth 20000 in
theorem Add_ok2 (p : Nat) (ls : List (List (BitVec 8))) (c : BitVec 64) (q : Nat) (lv : Value) (vs : List Value) (x : Er) (NB : List (BitVec 8)) (w : World) (h : ErrAt w p ls c (q + 1) lv vs) (hl : ls.length ≤ 100) (hq : q ≤ 63) (hb : erOk x = true) (hNB : erB (numb x (c + 1#64)) = NB) :
    Calls Tryd.prog 27 #[.pointer (some ⟨p, 0, none⟩), .agg (Er.cells x).toArray] w fun e w' => e = .returned (.tuple #[.int .u64 (uv (c + 1#64)), .int .i64 0]) ∧ (∃ lv', (∀ g, lv'.ownBlock = some g → w.heap.size ≤ g) ∧ ∃ u0, Off (fun b => b < w.heap.size) u0 ∧ ∃ m, ErrAt w' p (NB :: ls.take q) (c + 1#64) (q + 1) lv' (u0 :: vs.take m)) ∧ Chg (fun b => b = p) w w' := by
  have HNB := Lib.hid hNB
  clear hNB
  rw [show (Er.cells x).toArray = #[.int .u64 (uv x.count), .int .u16 (uv x.queue), .int .u16 (uv x.id), .int .u8 (uv x.st.typ), .int .u8 (uv x.st.code), .bool x.st.more, .bool x.st.never, .int .u16 (uv x.loc), .int .u64 (uv x.lba), .int .u32 (uv x.nsid), .int .u64 (uv x.spec)] from rfl]
  have hsz : (((q + 1 : Nat) : Int) == 0) = false := by simp; omega
  have H := Lib.hid h
  have HP := Lib.hid h.lt
  obtain ⟨al, cl, hlv⟩ : ∃ a c, lv = .slice a ls.length c := own_shape h.own
  obtain ⟨W, hW⟩ : ∃ W, W = w.alloc (.cells #[.int .u64 (uv x.count), .int .u16 (uv x.queue), .int .u16 (uv x.id), .int .u8 (uv x.st.typ), .int .u8 (uv x.st.code), .bool x.st.more, .bool x.st.never, .int .u16 (uv x.loc), .int .u64 (uv x.lba), .int .u32 (uv x.nsid), .int .u64 (uv x.spec)] 57) := ⟨_, rfl⟩
  have D := Lib.hid (show Below w.heap.size w W by rw [hW]; exact gr_alloc w _)
  have X := Lib.hid (show W.heap[w.heap.size]? = some (.cells #[.int .u64 (uv x.count), .int .u16 (uv x.queue), .int .u16 (uv x.id), .int .u8 (uv x.st.typ), .int .u8 (uv x.st.code), .bool x.st.more, .bool x.st.never, .int .u16 (uv x.loc), .int .u64 (uv x.lba), .int .u32 (uv x.nsid), .int .u64 (uv x.spec)] 57 (0, 0)) by rw [hW]; exact heap_alloc_new w _)
  have E0 := Lib.hid (h.below D.out)
  have c0 : W.cell? ⟨w.heap.size, 0, none⟩ = some (.int .u64 (uv x.count)) := (cell_of_row _ _ 0 _ _ _ X.out).trans rfl
  have f0 := frozen_of_row _ _ 0 _ _ X.out
  have p1 : W.cell? ⟨p, 1, none⟩ = some (.int .u64 (uv c)) := (cell_of_row _ _ 1 _ _ _ E0.out.blk).trans rfl
  have P1 := Lib.hid p1
  have p2 : W.cell? ⟨p, 2, none⟩ = some (.int .i64 ((q + 1 : Nat) : Int)) := (cell_of_row _ _ 2 _ _ _ E0.out.blk).trans rfl
  have HW := Lib.hid hW
  have HLV := Lib.hid hlv; have HL := Lib.hid hl; have HQ := Lib.hid hq; have HB := Lib.hid hb
  clear hW h hlv hl hq hb p1
  go_enter Tryd.func27, Tryd.ntmps27
  go_upto_region 1 with (fail)
  rw [← HW.out]
  go_upto_region 4 with (go_at_call 81; go_loud (refine (number_any p _ _ P1.out).mono ?_; rintro r w' ⟨rfl, rfl⟩))
  obtain ⟨V, hV⟩ : ∃ V, V = W.setCell ⟨w.heap.size, 0, none⟩ (.int .u64 (uv (c + 1#64))) := ⟨_, rfl⟩
  have DV := Lib.hid (show Below w.heap.size w V by rw [hV]; exact D.out.setCell (p := ⟨w.heap.size, 0, none⟩) (Nat.le_refl _) _)
  have XV := Lib.hid (show V.heap[w.heap.size]? = some (.cells #[.int .u64 (uv (c + 1#64)), .int .u16 (uv x.queue), .int .u16 (uv x.id), .int .u8 (uv x.st.typ), .int .u8 (uv x.st.code), .bool x.st.more, .bool x.st.never, .int .u16 (uv x.loc), .int .u64 (uv x.lba), .int .u32 (uv x.nsid), .int .u64 (uv x.spec)] 57 (0, 0)) by rw [hV]; exact heap_setCell_same _ _ _ _ _ _ X.out)
  have EV := Lib.hid (H.out.below DV.out)
  have HV := Lib.hid hV
  rw [← HV.out]
  clear hV c0 f0 p2 E0 P1 X HV
  have LV := Lib.hid (show p < V.heap.size from EV.out.lt)
  have ENC := fun w => EncEr_at (numb x (c + 1#64)) 0 (erB (numb x (c + 1#64))) w (by unfold erE; rw [show erOk (numb x (c + 1#64)) = true from HB.out]; rfl) (by unfold erR; rw [show erOk (numb x (c + 1#64)) = true from HB.out]; rfl)
  rw [show (Er.cells (numb x (c + 1#64))).toArray = #[.int .u64 (uv (c + 1#64)), .int .u16 (uv x.queue), .int .u16 (uv x.id), .int .u8 (uv x.st.typ), .int .u8 (uv x.st.code), .bool x.st.more, .bool x.st.never, .int .u16 (uv x.loc), .int .u64 (uv x.lba), .int .u32 (uv x.nsid), .int .u64 (uv x.spec)] from rfl] at ENC
  have BL := Lib.hid (erB_len (numb x (c + 1#64)) (of_decide_eq_true HB.out))
  rw [HNB.out] at ENC BL
  go_upto_region 7 with (first
    | (refine wpList_load_row rfl 57 (.tmp 3) rfl w.heap.size rfl 57 #[.int .u64 (uv (c + 1#64)), .int .u16 (uv x.queue), .int .u16 (uv x.id), .int .u8 (uv x.st.typ), .int .u8 (uv x.st.code), .bool x.st.more, .bool x.st.never, .int .u16 (uv x.loc), .int .u64 (uv x.lba), .int .u32 (uv x.nsid), .int .u64 (uv x.spec)] (0, 0) _ XV.out Tryd.underlying57 rfl (by kernel_rfl) ?_)
    | (go_at_call 44; go_loud (refine (ENC _).mono ?_; rintro r w2 ⟨u, rfl, hu, hw⟩; have U := Lib.hid (BytesV.of_own hu); have OFF := Lib.hid (byte_off hu LV.out); have OFF2 := Lib.hid (byte_fresh hu DV.out.size); have D2 := Lib.hid (gr_tr DV.out hw); have E2 := Lib.hid (EV.out.below hw); have X2 := Lib.hid (blk_below XV.out hw); clear hu hw)))
  clear ENC XV EV
  obtain ⟨au, nu, cu, rfl⟩ := bytes_shape U.out
  have hlv := HLV.out
  subst hlv
  obtain ⟨m, hm⟩ : ∃ m, min ls.length q = m := ⟨_, rfl⟩
  have hm1 : m ≤ ls.length := by omega
  have hmin : min (ls.length : Int) (q : Int) = (m : Int) := by omega
  have hmin2 : min ls.length q = m := hm
  have hwr : IntKind.i64.wrap ((q : Int) + 1 - 1) = (q : Int) := by have := HQ.out; unfold IntKind.wrap; simp [IntKind.bits, IntKind.signed]; omega
  have hwq : IntKind.i64.wrap (q : Int) = (q : Int) := by have := HQ.out; unfold IntKind.wrap; simp [IntKind.bits, IntKind.signed]; omega
  have hwr2 : (q : Int) + 1 - 1 = (q : Int) := by omega
  obtain ⟨r1, r2, r3, r4, r5⟩ := E2.out.row
  have R1 := Lib.hid r1; have R2 := Lib.hid r2; have R5 := Lib.hid r5; have R34 := Lib.hid (And.intro r3 r4)
  have hcut := run_uptoP al ls.length cl m hm1 r3 r4
  have HM := Lib.hid hm; have HM1 := Lib.hid hm1
  have q0 : ∀ y : KeepT nowhere w2, y.val.cell? ⟨p, 0, none⟩ = some (.slice al ls.length cl) := fun y => y.cell ((cell_of_row _ _ 0 _ _ _ E2.out.blk).trans rfl) id
  have q2 : ∀ y : KeepT nowhere w2, y.val.cell? ⟨p, 2, none⟩ = some (.int .i64 ((q + 1 : Nat) : Int)) := fun y => y.cell ((cell_of_row _ _ 2 _ _ _ E2.out.blk).trans rfl) id
  clear r1 r2 r3 r4 r5 hm hm1
  refine wp_region_planL nowhere [(true, 0), (true, 1), (true, 3), (true, 4), (true, 5), (true, 6), (true, 7), (true, 8), (true, 9), (true, 10), (true, 11), (true, 12), (true, 13), (true, 14), (true, 15), (true, 16), (true, 17), (true, 18), (true, 19), (true, 20), (false, 2), (false, 21), (true, 22), (true, 23), (true, 24)] 25 (by kernel_rfl) (by kernel_rfl) (by intro c a d v w h; cases d <;> exact h) ?_
  intro W1 K1 C1
  repeat (refine wpS_firm rfl (fun K hK => ?_); simp only [Keep]; go_simp; refine hK _ ?_; clear hK K)
  refine wpS_chain rfl ?_
  go_wp2
  refine ⟨K1.out.alloc _, ?_⟩
  refine wpS_chain rfl ?_
  have OL := Lib.hid (World.ownsRow_lit (base := w.heap.size) (size := 1) (e := 22) W1 #[.slice au nu cu] 1 (by have := D2.out.size; have := C1.out.size; omega) (by decide) rfl)
  have CA := Lib.hid (gr_tr C1.out (gr_alloc W1 (.cells #[.slice au nu cu] 22)))
  have VONE := Lib.hid (show ∀ z ∈ vs.take m, z.oneCell' = true from fun z hz => by
    obtain ⟨i, hi, rfl⟩ := List.mem_iff_getElem.1 (List.mem_of_mem_take hz)
    obtain ⟨-, z2, hz2, hz3, -⟩ := E2.out.el i ls[i] (List.getElem?_eq_getElem (by have := R5.out; omega))
    rw [List.getElem?_eq_getElem hi] at hz2
    cases hz2; exact off_one hz3)
  refine app_law_at partsOk rfl (.tmp 33) (.tmp 51) rfl w.heap.size _ 1 [.slice au nu cu] rfl OL.out al m cl (vs.take m) rfl R2.out (by have := HM1.out; have := R34.out.1; omega) ((R1.out.below CA.out).take m) (by rw [List.length_take, R5.out, Nat.mul_one]; have := HM1.out; omega) VONE.out (by have := HM1.out; have := HL.out; omega) (by have := HM1.out; have := HL.out; omega) (by have := D2.out.size; have := CA.out.size; omega) ?_
  intro v3 w3 ho hg hat; have O3 := Lib.hid ho; have C3 := Lib.hid (CA.out.grown hg CA.out.size (fun k hk => by have hk' : W1.heap.size = k := Option.some.inj hk; have := C1.out.size; omega)); have K3 := Lib.hid (KeepG (K1.out.alloc _) hg (fun k hk => by have hk' : W1.heap.size = k := Option.some.inj hk; have := C1.out.size; exact .inr (by omega))); clear ho hg hat
  refine ⟨K3.out, ?_⟩
  repeat (refine wpS_firm rfl (fun K hK => ?_); simp only [Keep]; go_simp; refine hK _ ?_; clear hK K)
  unfold wpS
  refine wpL_last rfl ?_
  have E3 := Lib.hid (E2.out.below C3.out)
  have X3 := Lib.hid (blk_below X2.out C3.out)
  have b0 : w3.cell? ⟨p, 0, none⟩ = some (.slice al ls.length cl) := (cell_of_row _ _ 0 _ _ _ E3.out.blk).trans rfl
  have b1 : w3.cell? ⟨p, 1, none⟩ = some (.int .u64 (uv c)) := (cell_of_row _ _ 1 _ _ _ E3.out.blk).trans rfl
  have z0 := frozen_of_row _ _ 0 _ _ E3.out.blk
  have z1 := frozen_of_row _ _ 1 _ _ E3.out.blk
  have x0 : w3.cell? ⟨w.heap.size, 0, none⟩ = some (.int .u64 (uv (c + 1#64))) := (cell_of_row _ _ 0 _ _ _ X3.out).trans rfl
  have hne1 : (p = w.heap.size) = False := eq_false (by have := HP.out; omega)
  have hne2 : (w.heap.size = p) = False := eq_false (by have := HP.out; omega)
  clear q0 q2 hcut hmin hwr hwr2 hmin2 hwq
  obtain ⟨a3, n3, rfl⟩ := own_shape O3.out
  go_wp2
  go_ret2
  refine ⟨rfl, ⟨.slice a3 (1 + m) n3, fun g hg => (O3.out.lt g hg).1,   .slice au nu cu, OFF2.out, m, ⟨?_, ?_, ?_⟩⟩, ?_⟩
  · exact heap_setCell_same _ _ _ _ _ _ (heap_setCell_same _ _ _ _ _ _ E3.out.blk)
  · have h1 := own_base O3.out (show p + 1 ≤ w.heap.size from HP.out)
    have hlen : (NB :: ls.take q).length = 1 + m := by rw [List.length_cons, List.length_take]; have := HM.out; omega
    rw [hlen]
    exact own_chg (own_chg h1 (Chg.setCell (B := fun b => b = p) (p := ⟨p, 0, none⟩) _ rfl _) (fun g hg => by have := (h1.lt g hg).1; omega)) (Chg.setCell (B := fun b => b = p) (p := ⟨p, 1, none⟩) _ rfl _) (fun g hg => by have := (h1.lt g hg).1; omega)
  · have hc : Chg (fun b => b = p) w3 ((w3.setCell ⟨p, 0, none⟩ (.slice a3 (1 + m) n3)).setCell ⟨p, 1, none⟩ (.int .u64 (uv (c + 1#64)))) := (Chg.setCell (B := fun b => b = p) (p := ⟨p, 0, none⟩) _ rfl _).trans (Chg.setCell (B := fun b => b = p) (p := ⟨p, 1, none⟩) _ rfl _)
    intro i l hi
    cases i with
    | zero =>
      simp at hi
      subst hi
      exact ⟨BL.out, _, rfl, (U.out.below C3.out).chg hc OFF.out, OFF.out⟩
    | succ i =>
      rw [List.getElem?_cons_succ] at hi
      have hiq : i < q := by have := (List.getElem?_eq_some_iff.1 hi).1; rw [List.length_take] at this; omega
      rw [List.getElem?_take_of_lt hiq] at hi
      have hil := (List.getElem?_eq_some_iff.1 hi).1
      obtain ⟨h1, z, h2, h3, h4⟩ := E3.out.el i l hi
      refine ⟨h1, z, ?_, h3.chg hc h4, h4⟩
      show (vs.take m)[i]? = some z
      rw [List.getElem?_take_of_lt (by have := HM.out; omega)]; exact h2
  · exact (Chg.of_below (B := fun b => b = p) (gr_tr D2.out C3.out)).trans ((Chg.setCell (B := fun b => b = p) (p := ⟨p, 0, none⟩) _ rfl _).trans (Chg.setCell (B := fun b => b = p) (p := ⟨p, 1, none⟩) _ rfl _))
theorem Add_ok (p : Nat) (ls : List (List (BitVec 8))) (c : BitVec 64) (q : Nat) (lv : Value) (vs : List Value) (x : Er) (NB : List (BitVec 8)) (w : World) (h : ErrAt w p ls c (q + 1) lv vs) (hl : ls.length ≤ 100) (hq : q ≤ 63) (hb : erOk x = true) (hNB : erB (numb x (c + 1#64)) = NB) :
    Calls Tryd.prog 27 #[.pointer (some ⟨p, 0, none⟩), .agg (Er.cells x).toArray] w fun e w' => e = .returned (.tuple #[.int .u64 (uv (c + 1#64)), .int .i64 0]) ∧ (∃ lv' vs', ErrAt w' p (NB :: ls.take q) (c + 1#64) (q + 1) lv' vs') ∧ Chg (fun b => b = p) w w' := by
  refine (Add_ok2 p ls c q lv vs x NB w h hl hq hb hNB).mono ?_
  rintro e w' ⟨h1, ⟨lv', -, u0, -, m, h2⟩, h3⟩
  exact ⟨h1, ⟨lv', _, h2⟩, h3⟩
end Go.Proofs.YthnnopjakpjoeaaDoor
