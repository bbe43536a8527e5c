/- Discovery: padded, named; ContainsFunc over bytes. Printed by gendscp.py. -/
import Derived.Test.YtjcgdenkmmgmfaaGreatDoorDscO
import Derived.Lib.IndexLaws
namespace Go.Proofs.YtjcgdenkmmgmfaaGreatDoor
open Go.RowKit Dsc
set_option linter.unusedVariables false
set_option linter.unusedSimpArgs false
theorem cut_take (l : List (BitVec 8)) (a n : Nat) : (l.take (a + n)).drop a = cut l a n := by
  unfold cut; rw [List.drop_take]; congr 1; omega
theorem ofBitVec_beq (x : BitVec 8) : (UInt8.ofBitVec x == 32) = (x == 32#8) := by
  rw [Bool.eq_iff_iff, beq_iff_eq, beq_iff_eq]
  constructor
  · intro h; have := congrArg UInt8.toBitVec h; exact this
  · intro h; subst h; rfl
theorem dropWhile_map (l : List (BitVec 8)) : (l.map UInt8.ofBitVec).dropWhile (· == 32) = (l.dropWhile (· == 32#8)).map UInt8.ofBitVec := by
  induction l with
  | nil => rfl
  | cons x r ih =>
    rw [List.map_cons, List.dropWhile_cons, List.dropWhile_cons, ofBitVec_beq]
    split
    · exact ih
    · rfl
theorem trim_sp (l : List (BitVec 8)) : (⟨(Lib.trimRightB (strOf l).data.toList 32).toArray⟩ : ByteArray) = strOf (Wire.rstrip l) := by
  unfold strOf Wire.rstrip Lib.trimRightB
  congr 2
  rw [List.map_reverse, ← dropWhile_map, List.map_reverse]
theorem run_stringP {w : World} {v : Value} {l : List (BitVec 8)} (hv : BytesV w v l) : (convert 111 9 v).run Tryz.prog w = .ok (.string (strOf l)) w := by
  obtain ⟨a, c, rfl, h0, h1, h2, h3⟩ := hv
  cases a with
  | none =>
    have hc := h0 rfl
    have : l = [] := List.length_eq_zero_iff.1 (by omega)
    subst this
    exact run_convert_bytes_nil (P := Tryz.prog) w _ _ Tryz.underlying111 Tryz.underlying5 _ _ _ Tryz.underlying9
  | some ad =>
    have := run_convert_bytes_back (P := Tryz.prog) w 111 9 5 ad c (l.map UInt8.ofBitVec) Tryz.underlying111 Tryz.underlying5 Tryz.underlying9 (by
      intro j hj
      simp only [List.length_map] at hj
      obtain ⟨b, o, e1, e2⟩ := h3.at (i := j) (v := .int .u8 (uv l[j])) (by rw [by8_get, List.getElem?_eq_getElem hj]; rfl)
      cases e1
      have e3 : w.cell? ((⟨b, o, none⟩ : Addr).add j) = some (.int .u8 (uv l[j])) := by
        unfold Addr.add; split
        · rename_i h0; subst h0; simpa using e2
        · exact e2
      rw [e3]; simp [uv])
    simp only [List.length_map] at this
    exact this
theorem trimR_at (l s : List (BitVec 8)) (w : World) (hl : l.length ≤ 9223372036854775807) (hs : Wire.rstrip l = s) :
    Calls Tryz.prog 77 #[.string (strOf l), .string ⟨#[32]⟩] w fun e w' => e = .returned (.string (strOf s)) ∧ w' = w := by
  refine (Tryz.strings_TrimRight_one (strOf l) 32 (by decide) w (by rw [strOf_size]; exact hl)).mono ?_
  rintro e w' ⟨rfl, rfl⟩
  exact ⟨by rw [trim_sp, hs], rfl⟩
theorem padded_at (v : Value) (b : List (BitVec 8)) (at_ n : Nat) (s : List (BitVec 8)) (w : World) (hv : BytesV w v b) (h : at_ + n ≤ b.length) (hb : b.length ≤ 1000000) (hs : Wire.rstrip (cut b at_ n) = s) :
    Calls Tryz.prog 62 #[v, .int .i64 at_, .int .i64 n] w fun e w' => e = .returned (.string (strOf s)) ∧ w' = w := by
  obtain ⟨u, hu, hrun, -⟩ := BytesV.cut (P := Tryz.prog) (T := 111) (E := 5) Tryz.underlying111 (by kernel_rfl) hv at_ (at_ + n) (by omega) h
  rw [cut_take] at hu
  have hconv := run_stringP hu
  have TR := Lib.hid (fun w => trimR_at (cut b at_ n) s w (by rw [cut_len h]; omega) hs)
  have hw : IntKind.i64.wrap ((at_ : Int) + (n : Int)) = ((at_ + n : Nat) : Int) := by rw [IntKind.wrap_i64]; omega
  have hw2 : (at_ : Int) + (n : Int) = ((at_ + n : Nat) : Int) := by omega
  obtain ⟨m, hm⟩ : ∃ m, at_ + n = m := ⟨_, rfl⟩
  rw [hm] at hrun hw hw2
  have hm2 : m ≤ 1000000 := by omega
  obtain ⟨st, hst⟩ : ∃ st, strOf (cut b at_ n) = st := ⟨_, rfl⟩
  rw [hst] at hconv TR
  clear hv h hb hs hu hm hst
  go_enter Tryz.func62, Tryz.ntmps62
  go_wp2_with (go_at_call 77; go_loud (refine (TR.out _).mono ?_; rintro e w2 ⟨rfl, rfl⟩))
  go_ret
  exact ⟨rfl, rfl⟩
/-! bytes.Cut at one byte -/
def nums8 (l : List (BitVec 8)) : List Int := l.map uv
theorem bytesOf_nums (l : List (BitVec 8)) : Lib.bytesOf (nums8 l) = l.map UInt8.ofBitVec := by
  unfold Lib.bytesOf nums8
  rw [List.map_map]
  congr 1
  funext x
  rcases x with ⟨⟨x, hx⟩⟩
  apply UInt8.toNat_inj.1
  simp [uv]
  omega
theorem upto0_at {l : List (BitVec 8)} {o : Nat} (h : Lib.indexByte (l.map UInt8.ofBitVec) 0 = o) : upto0 l = l.take o ∧ o < l.length := by
  obtain ⟨h1, h2⟩ := Lib.indexByte_some h
  rw [List.getElem?_map] at h1
  obtain ⟨x, hx, hx0⟩ := Option.map_eq_some_iff.1 h1
  have hlt := (List.getElem?_eq_some_iff.1 hx).1
  refine ⟨?_, hlt⟩
  have hx1 : x = 0#8 := by have := congrArg UInt8.toBitVec hx0; exact this
  have hall : ∀ y ∈ l.take o, (!(y == 0#8)) = true := by
    intro y hy
    obtain ⟨k, hk, rfl⟩ := List.mem_iff_getElem.1 hy
    rw [List.length_take] at hk
    have := h2 k (by omega)
    rw [List.getElem_take]
    rw [List.getElem?_map, List.getElem?_eq_getElem (by omega)] at this
    have hne : l[k] ≠ 0#8 := fun e => this (by rw [e]; rfl)
    simpa using hne
  have e : l = l.take o ++ (x :: l.drop (o + 1)) := by
    rw [List.getElem?_eq_getElem hlt] at hx
    cases hx
    rw [← List.drop_eq_getElem_cons hlt, List.take_append_drop]
  unfold upto0
  conv => lhs; rw [e]
  rw [List.takeWhile_append_of_pos hall, List.takeWhile_cons]
  subst hx1
  simp
theorem tw_self {α : Type} (p : α → Bool) : ∀ (l : List α), (∀ y ∈ l, p y = true) → l.takeWhile p = l
  | [], _ => rfl
  | x :: l, h => by rw [List.takeWhile_cons, h x (by simp)]; show x :: l.takeWhile p = x :: l; rw [tw_self p l (fun y hy => h y (by simp [hy]))]
theorem upto0_no {l : List (BitVec 8)} (h : Lib.indexByte (l.map UInt8.ofBitVec) 0 = -1) : upto0 l = l := by
  have h2 := Lib.indexByte_none h
  unfold upto0
  refine tw_self _ l ?_
  intro y hy
  obtain ⟨k, hk, rfl⟩ := List.mem_iff_getElem.1 hy
  have := h2 k
  rw [List.getElem?_map, List.getElem?_eq_getElem hk] at this
  have hne : l[k] ≠ 0#8 := fun e => this (by rw [e]; rfl)
  simpa using hne
theorem drewN_below (w : World) (q : Nat) : Below w.heap.size w (w.drewN q) := gr_drewN w q
theorem Cut_at (g o c : Nat) (l : List (BitVec 8)) (g2 : Nat) (w : World) (hv : BytesV w (.slice (some ⟨g, o, none⟩) l.length c) l) (hl : l.length ≤ 1000000) (h0 : w.cell? ⟨g2, 0, none⟩ = some (.int .u8 0)) :
    Calls Tryz.prog 78 #[.slice (some ⟨g, o, none⟩) l.length c, .slice (some ⟨g2, 0, none⟩) 1 1] w fun e w' => ∃ u x y, e = .returned (.tuple #[u, x, y]) ∧ BytesV w' u (upto0 l) ∧ Below w.heap.size w w' := by
  obtain ⟨a1, c1, e1, hc0, hc1, hc2, hrow⟩ := id hv
  injection e1 with e1 e2 e3
  subst e3
  have hcell : ∀ i, i < l.length → w.cell? ⟨g, o + i, none⟩ = some (.int .u8 ((nums8 l).getD i 0)) := fun i hi => by
    rw [BytesV.cellAt hv (List.getElem?_eq_getElem hi), List.getD_eq_getElem?_getD]
    unfold nums8
    rw [List.getElem?_map, List.getElem?_eq_getElem hi]; rfl
  have hidx := Tryz.bytes_Index_one g o l.length c g2 0 1 (nums8 l) 0 w (by simp [nums8]) hcell h0
  rw [bytesOf_nums] at hidx
  have hge := Lib.indexByte_ge (l.map UInt8.ofBitVec) 0
  obtain ⟨i, hi⟩ : ∃ i, Lib.indexByte (l.map UInt8.ofBitVec) 0 = i := ⟨_, rfl⟩
  have hz : (0 : Int).toNat.toUInt8 = 0 := rfl
  rw [hz, hi] at hidx
  rw [hi] at hge
  by_cases hneg : 0 ≤ i
  · obtain ⟨k, rfl⟩ := Int.eq_ofNat_of_zero_le hneg
    obtain ⟨hu, hk⟩ := upto0_at hi
    refine (Tryz.bytes_Cut_of (some ⟨g, o, none⟩) (some ⟨g2, 0, none⟩) l.length c 1 1 k w hc1 hge (fun _ => by omega) (by omega) (hidx.mono (fun e w' h => ⟨h.1, 0, by rw [h.2]; rfl⟩))).mono ?_
    rintro e w' ⟨rfl, q, rfl⟩
    refine ⟨.slice (some ⟨g, o, none⟩) k c, Lib.fromV (some ⟨g, o, none⟩) l.length c (k + 1), .bool true, ?_, ?_, drewN_below w q⟩
    · unfold Lib.cutV; rw [if_pos hneg]; rfl
    · refine BytesV.below ?_ (drewN_below w q)
      refine ⟨_, c, by rw [hu, List.length_take, Nat.min_eq_left (by omega)], by simp, by rw [hu, List.length_take]; omega, hc2, ?_⟩
      subst e1
      have := hrow.take k
      rwa [show (by8 l).take k = by8 (upto0 l) by rw [hu]; simp [by8]] at this
  · have hi1 : i = -1 := by omega
    subst hi1
    have hu := upto0_no hi
    refine (Tryz.bytes_Cut_of (some ⟨g, o, none⟩) (some ⟨g2, 0, none⟩) l.length c 1 1 (-1) w hc1 hge (fun h => absurd h (by decide)) (by omega) (hidx.mono (fun e w' h => ⟨h.1, 0, by rw [h.2]; rfl⟩))).mono ?_
    rintro e w' ⟨rfl, q, rfl⟩
    refine ⟨_, _, _, by unfold Lib.cutV; rw [if_neg hneg], ?_, drewN_below w q⟩
    rw [hu]
    exact hv.below (drewN_below w q)
theorem named_at (v : Value) (b : List (BitVec 8)) (at_ n : Nat) (s : List (BitVec 8)) (w : World) (hv : BytesV w v b) (h : at_ + n ≤ b.length) (hn : 0 < n) (hb : b.length ≤ 1000000) (hs : upto0 (cut b at_ n) = s) :
    Calls Tryz.prog 63 #[v, .int .i64 at_, .int .i64 n] w fun e w' => e = .returned (.string (strOf s)) ∧ Below w.heap.size w w' := by
  obtain ⟨u, hu, hrun, -⟩ := BytesV.cut (P := Tryz.prog) (T := 111) (E := 5) Tryz.underlying111 (by kernel_rfl) hv at_ (at_ + n) (by omega) h
  rw [cut_take] at hu
  have hcl := cut_len h
  obtain ⟨gu, ou, cu, rfl⟩ := hu.shapeAt (by rw [hcl]; exact hn)
  obtain ⟨L, hL⟩ : ∃ L, cut b at_ n = L := ⟨_, rfl⟩
  rw [hL] at hu hrun hcl hs
  have U := Lib.hid hu; have HS := Lib.hid hs
  have LL := Lib.hid (show L.length ≤ 1000000 by rw [hcl]; omega)
  have hw : IntKind.i64.wrap ((at_ : Int) + (n : Int)) = ((at_ + n : Nat) : Int) := by rw [IntKind.wrap_i64]; omega
  have hw2 : (at_ : Int) + (n : Int) = ((at_ + n : Nat) : Int) := by omega
  obtain ⟨m, hm⟩ : ∃ m, at_ + n = m := ⟨_, rfl⟩
  rw [hm] at hrun hw hw2
  have hm2 : m ≤ 1000000 := by omega
  clear hv h hb hs hu hm hcl hL
  go_enter Tryz.func63, Tryz.ntmps63
  go_upto_region 2 with (go_at_call 78; go_loud (refine (Cut_at gu ou cu L _ _ (U.out.below (gr_alloc w _)) LL.out (by have h := cell_of_row _ _ 0 _ _ _ (heap_alloc_new w (.cells #[.int .u8 0] 5)); exact h.trans rfl)).mono ?_; rintro e w2 ⟨u, x, y, rfl, hu, hw⟩; rw [HS.out] at hu; have U2 := Lib.hid hu; have B2 := Lib.hid (gr_tr (gr_alloc w _) hw); clear hu hw))
  have hconv := run_string U2.out
  go_wp2
  go_ret
  exact ⟨rfl, B2.out⟩
end Go.Proofs.YtjcgdenkmmgmfaaGreatDoor
