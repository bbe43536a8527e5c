/- The walks of package wire: a reader: take, field, state, NewReader, At. -/
import Derived.Test.YtabfmhlhdebcpaaGreatDoorWireC
import Derived.BigRegion
import Derived.Deep.DeepCutAuto
namespace Go.Proofs.YtabfmhlhdebcpaaGreatDoor
open Go.RowKit
set_option linter.unusedVariables false
set_option linter.unusedSimpArgs false
/-- A reader's state lies in block r: what is left, and how much was read. -/
structure RdAt (w : World) (T : TypeId) (r d : Nat) (v : Value) (l : List (BitVec 8)) (n : Nat) : Prop where
  blk : w.heap[r]? = some (.cells #[v, .int .i64 n] T (0, 0))
  bytes : BytesV w v l
  small : l.length + n ≤ 4611686018427387904
  old : ∀ ad m c, v = .slice (some ad) m c → ad.block < d
  le : d ≤ r
theorem RdAt.below {w w' : World} {T : TypeId} {r d : Nat} {v : Value} {l : List (BitVec 8)} {n : Nat} (h : RdAt w T r d v l n) (c : Below w.heap.size w w') : RdAt w' T r d v l n := by
  have hlt : r < w.heap.size := by
    rcases Nat.lt_or_ge r w.heap.size with k | k
    · exact k
    · have := h.blk; rw [Array.getElem?_eq_none k] at this; exact absurd this (by simp)
  exact ⟨(c.block r hlt).trans h.blk, h.bytes.below c, h.small, h.old, h.le⟩
theorem RdAt.lt {w : World} {T : TypeId} {r d : Nat} {v : Value} {l : List (BitVec 8)} {n : Nat} (h : RdAt w T r d v l n) : r < w.heap.size := by
  rcases Nat.lt_or_ge r w.heap.size with k | k
  · exact k
  · have := h.blk; rw [Array.getElem?_eq_none k] at this; exact absurd this (by simp)
/-- The slice of a reader lies in another block: it holds bytes. -/
theorem bsz : (Tryz.prog.info? 5).map (·.size) = some 1 := by kernel_rfl
theorem bytes_shape {w : World} {u : Value} {l : List (BitVec 8)} (h : BytesV w u l) : ∃ a n c, u = .slice a n c := by
  obtain ⟨a, c, rfl, _⟩ := h; exact ⟨_, _, _, rfl⟩
/-- What the reader's block does not hold: bytes. -/
theorem BytesV.chg_rd {w w' : World} {u : Value} {l : List (BitVec 8)} {r : Nat} {T : TypeId} {a : Option Addr} {m c : Nat} {n : Int} (h : BytesV w u l) (hb : w.heap[r]? = some (.cells #[.slice a m c, .int .i64 n] T (0, 0))) (k : Chg (fun b => b = r) w w') : BytesV w' u l := by
  obtain ⟨ad, c', rfl, h0, h1, h2, h3⟩ := h
  refine ⟨ad, c', rfl, h0, h1, h2, ?_⟩
  rcases h3 with h | ⟨g, o, rfl, h⟩
  · exact .inl h
  · refine .inr ⟨g, o, rfl, fun i hi => ?_⟩
    have hc := h i hi
    rw [by8_length] at hi
    rw [by8_get, List.getElem?_eq_getElem hi] at hc ⊢
    refine k.cell hc fun e => ?_
    subst e
    rw [cell_of_row _ _ _ _ _ _ hb] at hc
    match o + i, hc with
    | 0, hc => simp at hc
    | 1, hc => simp at hc
    | j + 2, hc => simp at hc
/-- A slice of a slice lies in the same block. -/
theorem slice_block {a : Option Addr} {n c lo : Nat} {u : Value} (hlo : lo ≤ n) (hn : n ≤ c) (hc : c ≤ 9223372036854775807) (h : ∀ w', (Instr.slice 42 (.slice a n c) (some (.int .i64 lo)) none none).run Tryz.prog w' = .ok u w') (ad2 : Addr) (m k : Nat) (hu : u = .slice (some ad2) m k) : ∃ ad, a = some ad ∧ ad.block = ad2.block := by
  have he : Tryz.prog.elem 42 = 5 := by simp [Program.elem, Tryz.underlying42]
  have ht' : Tryz.prog.underlying 42 = some (.slice (Tryz.prog.elem 42)) := by rw [he]; exact Tryz.underlying42
  have hz : ∀ w', (sizeOf (Tryz.prog.elem 42)).run Tryz.prog w' = .ok 1 w' := fun w' => by
    rw [he]
    obtain ⟨i, hi, hi'⟩ := Option.map_eq_some_iff.1 bsz
    simp [sizeOf, typeInfo, hi, hi']
  have h1 := h default
  rw [run_slice_l default 42 a n c ht' .i64 lo (by omega) (by omega), hz] at h1
  simp only [Result.andThen, sliced, Result.ok.injEq, and_true] at h1
  rw [hu] at h1
  injection h1 with h1
  split at h1
  · exact ⟨_, h1, rfl⟩
  · obtain ⟨ad, ha, hb⟩ := Option.map_eq_some_iff.1 h1
    refine ⟨ad, ha, ?_⟩
    unfold Addr.add at hb
    split at hb
    · rw [hb]
    · rw [← hb]
theorem state_some (p : Nat) (w : World) :
    Calls Tryz.prog 112 #[.pointer (some ⟨p, 0, none⟩)] w fun e w' => e = .returned (.pointer (some ⟨p, 0, none⟩)) ∧ w = w' := by
  go_enter Tryz.func112, Tryz.ntmps112
  go_wp2
  go_ret
  exact ⟨rfl, rfl⟩
theorem NewReader_any (u : Value) (l : List (BitVec 8)) (w : World) (hu : BytesV w u l) (hs : l.length ≤ 140737488355328) :
    Calls Tryz.prog 97 #[u] w fun e w' => ∃ p v, e = .returned (.pointer (some ⟨p, 0, none⟩)) ∧ w.heap.size ≤ p ∧ RdAt w' 181 p p v l 0 ∧ Below w.heap.size w w' := by
  go_enter Tryz.func97, Tryz.ntmps97
  go_wp2_with (go_at_call 42; refine (Clone_any _ l _ hu hs).mono ?_; rintro r w1 ⟨u1, rfl, hown, hb1⟩; obtain ⟨a1, c1, rfl⟩ := own_shape hown; have U := Lib.hid (BytesV.of_own hown); have O := Lib.hid hown; have B := Lib.hid hb1; clear hown hb1)
  go_ret
  refine ⟨_, _, rfl, B.out.size, ⟨heap_alloc_new _ _, U.out.below (gr_alloc _ _), by omega, fun ad m c e => by cases e; exact (O.out.lt _ rfl).2, Nat.le_refl _⟩, gr_tr B.out (gr_alloc _ _)⟩
theorem take_arg (r : Nat) (k : Int) (w : World) (hk : k < 0) :
    Calls Tryz.prog 113 #[.pointer (some ⟨r, 0, none⟩), .int .i64 k] w fun e w' => e = .returned (.tuple #[.slice none 0 0, .int .i64 2]) ∧ w = w' := by
  go_enter Tryz.func113, Tryz.ntmps113
  go_wp2
  go_ret2
  exact ⟨rfl, rfl⟩
theorem take_short {d : Nat} (T : TypeId) (r : Nat) (v : Value) (l : List (BitVec 8)) (n : Nat) (k : Int) (w : World) (h : RdAt w T r d v l n) (hk : (l.length : Int) < k) :
    Calls Tryz.prog 113 #[.pointer (some ⟨r, 0, none⟩), .int .i64 k] w fun e w' => e = .returned (.tuple #[.slice none 0 0, .int .i64 4]) ∧ w = w' := by
  have d0 : w.cell? ⟨r, 0, none⟩ = some v := (cell_of_row _ _ 0 _ _ _ h.blk).trans rfl
  obtain ⟨a, c, rfl, -⟩ := h.bytes
  have hk0 : ¬ k < 0 := by omega
  have hd : decide (k > (l.length : Int)) = true := by simpa using hk
  clear h hk
  go_enter Tryz.func113, Tryz.ntmps113
  go_wp2
  go_ret2
  exact ⟨rfl, rfl⟩
set_option maxHeartbeats 1600000 in
theorem take_ok {d : Nat} (T : TypeId) (r : Nat) (v : Value) (l : List (BitVec 8)) (n k : Nat) (w : World) (h : RdAt w T r d v l n) (hk : k ≤ l.length) :
    Calls Tryz.prog 113 #[.pointer (some ⟨r, 0, none⟩), .int .i64 k] w fun e w' => ∃ u, e = .returned (.tuple #[u, .int .i64 0]) ∧ BytesV w' u (l.take k) ∧ (∃ v', RdAt w' T r d v' (l.drop k) (n + k)) ∧ Chg (fun b => b = r) w w' := by
  have d0 : w.cell? ⟨r, 0, none⟩ = some v := (cell_of_row _ _ 0 _ _ _ h.blk).trans rfl
  have d1 : w.cell? ⟨r, 1, none⟩ = some (.int .i64 n) := (cell_of_row _ _ 1 _ _ _ h.blk).trans rfl
  have f0 := frozen_of_row _ _ 0 _ _ h.blk
  have f1 := frozen_of_row _ _ 1 _ _ h.blk
  have R := Lib.hid h
  obtain ⟨u1, b1, -, r1⟩ := h.bytes.cut3 Tryz.underlying42 bsz 0 k k (by omega) (by omega) hk
  obtain ⟨u2, b2, r2⟩ := h.bytes.cutl Tryz.underlying42 bsz k hk
  replace r1 := r1 rfl
  rw [List.drop_zero] at b1
  have hsm := h.small
  obtain ⟨a2, n2, c2, rfl⟩ := bytes_shape b2
  have hold2 : ∀ ad m c, Value.slice a2 n2 c2 = .slice (some ad) m c → ad.block < d := by
    intro ad m c' e
    have hold := h.old
    obtain ⟨a, c, e1, h0, hl, hc, hrow⟩ := h.bytes
    rw [e1] at r2 hold
    obtain ⟨ad', e2, e3⟩ := slice_block hk hl hc r2 ad m c' e
    subst e2
    rw [← e3]; exact hold _ _ _ rfl
  have HOLD2 := Lib.hid hold2; clear hold2
  have B1 := Lib.hid b1; clear b1
  have B2 := Lib.hid b2; clear b2
  obtain ⟨a, c, rfl, -⟩ := h.bytes
  have hk0 : ¬ (k : Int) < 0 := by omega
  have hd : decide (l.length < k) = false := by simp; omega
  have hwr : IntKind.i64.wrap ((n : Int) + (k : Int)) = (n : Int) + (k : Int) := IntWalk.i64_in _ (by omega)
  clear h
  go_enter Tryz.func113, Tryz.ntmps113
  go_upto_region 6 with fail
  go_region
  all_goals
    go_wp2
    go_ret2
    have hch : Chg (fun b => b = r) w ((w.setCell ⟨r, 0, none⟩ (.slice a2 n2 c2)).setCell ⟨r, 1, none⟩ (.int .i64 ((n : Int) + (k : Int)))).drew :=
      ((Chg.setCell (B := fun b => b = r) w (p := ⟨r, 0, none⟩) rfl _).trans (Chg.setCell (B := fun b => b = r) _ (p := ⟨r, 1, none⟩) rfl _)).trans (Chg.of_below (gr_drew _))
    have hblk := heap_setCell_same _ r 1 _ T (.int .i64 ((n : Int) + (k : Int))) (heap_setCell_same w r 0 _ T (.slice a2 n2 c2) R.out.blk)
    have B2' := B2.out.chg_rd R.out.blk hch
    exact ⟨_, rfl, B1.out.chg_rd R.out.blk hch, ⟨.slice a2 n2 c2, by rw [show ((n + k : Nat) : Int) = (n : Int) + (k : Int) by omega]; exact hblk, B2', by rw [List.length_drop]; omega, HOLD2.out, R.out.le⟩, hch⟩
theorem take_any {d : Nat} (T : TypeId) (r : Nat) (v : Value) (l : List (BitVec 8)) (n : Nat) (k : Int) (w : World) (h : RdAt w T r d v l n) :
    Calls Tryz.prog 113 #[.pointer (some ⟨r, 0, none⟩), .int .i64 k] w fun e w' =>
      (k < 0 ∧ e = .returned (.tuple #[.slice none 0 0, .int .i64 2]) ∧ w = w') ∨ ((l.length : Int) < k ∧ e = .returned (.tuple #[.slice none 0 0, .int .i64 4]) ∧ w = w') ∨
      ∃ j : Nat, k = j ∧ j ≤ l.length ∧ ∃ u, e = .returned (.tuple #[u, .int .i64 0]) ∧ BytesV w' u (l.take j) ∧ (∃ v', RdAt w' T r d v' (l.drop j) (n + j)) ∧ Chg (fun b => b = r) w w' := by
  by_cases h0 : k < 0
  · exact (take_arg r k w h0).mono fun e w' ⟨a, b⟩ => .inl ⟨h0, a, b⟩
  · by_cases h1 : (l.length : Int) < k
    · exact (take_short T r v l n k w h h1).mono fun e w' ⟨a, b⟩ => .inr (.inl ⟨h1, a, b⟩)
    · obtain ⟨j, rfl⟩ := Int.eq_ofNat_of_zero_le (show 0 ≤ k by omega)
      exact (take_ok T r v l n j w h (by omega)).mono fun e w' hh => .inr (.inr ⟨j, rfl, by omega, hh⟩)
namespace Wire
/-- The error of reading one field. -/
def takeE (l : List (BitVec 8)) (k : Int) : Int := if k < 1 ∨ 8 < k then 2 else if (l.length : Int) < k then 4 else 0
end Wire
/-- A slice of words. -/
def wd (l : List (BitVec 64)) : List Value := l.map fun x => .int .u64 (uv x)
theorem field_no {d : Nat} (r : Nat) (T : TypeId) (v : Value) (l : List (BitVec 8)) (n : Nat) (k : Int) (e : Int) (w : World) (h : RdAt w T r d v l n) (he : Wire.takeE l k = e) (hne : e ≠ 0) :
    Calls Tryz.prog 125 #[.pointer (some ⟨r, 0, none⟩), .int .i64 k] w fun x w' => x = .returned (.tuple #[.slice none 0 0, .int .i64 e]) ∧ w = w' := by
  unfold Wire.takeE at he
  by_cases h1 : k < 1
  · rw [if_pos (.inl h1)] at he
    subst he
    clear h hne
    go_enter Tryz.func125, Tryz.ntmps125
    go_wp2
    go_ret2
    exact ⟨rfl, rfl⟩
  · by_cases h8 : 8 < k
    · rw [if_pos (.inr h8)] at he
      subst he
      clear h hne
      go_enter Tryz.func125, Tryz.ntmps125
      go_wp2
      go_ret2
      exact ⟨rfl, rfl⟩
    · rw [if_neg (by omega)] at he
      by_cases hs : (l.length : Int) < k
      · rw [if_pos hs] at he
        subst he
        have R := Lib.hid h; clear h hne
        go_enter Tryz.func125, Tryz.ntmps125
        go_wp2_with (go_at_call 113; refine (take_short T r v l n k _ R.out hs).mono ?_; rintro e w' ⟨rfl, rfl⟩)
        go_ret2
        exact ⟨rfl, rfl⟩
      · rw [if_neg hs] at he
        exact absurd he.symm hne
theorem field_ok {d : Nat} (r : Nat) (T : TypeId) (v : Value) (l : List (BitVec 8)) (n k : Nat) (x : BitVec 64) (w : World) (h : RdAt w T r d v l n) (h1 : 1 ≤ k) (h8 : k ≤ 8) (hk : k ≤ l.length) (hx : Wire.get (l.take k) = x) :
    Calls Tryz.prog 125 #[.pointer (some ⟨r, 0, none⟩), .int .i64 k] w fun e w' => ∃ g, e = .returned (.tuple #[.slice (some ⟨g, 0, none⟩) 1 1, .int .i64 0]) ∧ w.heap.size ≤ g ∧ Hid (w'.heap[g]? = some (.cells #[.int .u64 (uv x)] 86 (0, 0))) ∧ (∃ v', RdAt w' T r d v' (l.drop k) (n + k)) ∧ Chg (fun b => b = r) w w' := by
  have R := Lib.hid h; clear h
  have hlen : (l.take k).length = k := by rw [List.length_take]; omega
  have hge : Wire.getE (l.take k) = 0 := by unfold Wire.getE; rw [if_neg]; omega
  have hgv : Wire.getV (l.take k) = x := by unfold Wire.getV; rw [hge, if_pos rfl]; exact hx
  have GV := Lib.hid hgv; have GE := Lib.hid hge
  clear hgv hge hlen hx
  have b1 : ¬ ((k : Int) < 1) := by omega
  have b2 : ¬ ((k : Int) > 8) := by omega
  go_enter Tryz.func125, Tryz.ntmps125
  go_wp2_with (first
    | (go_at_call 113; refine (take_ok T r v l n k _ R.out hk).mono ?_; rintro e w1 ⟨u, rfl, hu, ⟨v', hr⟩, hc⟩; have U := Lib.hid hu; have R1 := Lib.hid hr; have C1 := Lib.hid hc; clear hu hr hc)
    | (go_at_call 127; refine (Get_at _ _ x 0 _ U.out GV.out GE.out).mono ?_; rintro e w' ⟨rfl, rfl⟩))
  go_ret2
  exact ⟨_, rfl, C1.out.size, heap_alloc_new _ _, ⟨v', R1.out.below (gr_alloc _ _)⟩, C1.out.trans (Chg.of_below (gr_alloc _ _))⟩
end Go.Proofs.YtabfmhlhdebcpaaGreatDoor
