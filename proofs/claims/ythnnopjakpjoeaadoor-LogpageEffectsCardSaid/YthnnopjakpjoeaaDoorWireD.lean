/- The walks of package wire: each over fields, AddAll, Bytes. -/
import Derived.Test.YthnnopjakpjoeaaDoorWireC
namespace Go.Proofs.YthnnopjakpjoeaaDoor
open Go.RowKit
set_option linter.unusedVariables false
set_option linter.unusedSimpArgs false
abbrev WF := BitVec 64 × Int
/-- Fields as cells. -/
def fCells (fl : List WF) : List Value := fl.flatMap fun f => [.int .u64 (uv f.1), .int .i64 f.2]
theorem fCells_len (fl : List WF) : (fCells fl).length = fl.length * 2 := by
  unfold fCells
  induction fl with
  | nil => rfl
  | cons f fl ih => simp [ih]; omega
theorem fCells_get (fl : List WF) (k : Nat) (f : WF) (h : fl[k]? = some f) : (fCells fl)[k * 2]? = some (.int .u64 (uv f.1)) ∧ (fCells fl)[k * 2 + 1]? = some (.int .i64 f.2) := by
  induction fl generalizing k with
  | nil => simp at h
  | cons g fl ih =>
    cases k with
    | zero => simp at h; subst h; exact ⟨rfl, rfl⟩
    | succ k =>
      simp at h
      obtain ⟨h1, h2⟩ := ih k h
      have e1 : (k + 1) * 2 = k * 2 + 1 + 1 := by omega
      unfold fCells at h1 h2 ⊢
      rw [List.flatMap_cons, e1]
      exact ⟨h1, h2⟩
def FieldsV (w : World) (v : Value) (fl : List WF) : Prop :=
  ∃ a c, v = .slice a fl.length c ∧ (a = none → c = 0) ∧ fl.length ≤ c ∧ c ≤ 9223372036854775807 ∧ Row w a (fCells fl)
theorem FieldsV.below {w w' : World} {v : Value} {fl : List WF} (h : FieldsV w v fl) (hb : Below w.heap.size w w') : FieldsV w' v fl := by
  obtain ⟨a, c, e, h0, h1, h2, h3⟩ := h
  exact ⟨a, c, e, h0, h1, h2, h3.below hb⟩
theorem FieldsV.lit (w : World) (cs : Array Value) (ty : TypeId) (fl : List WF) (n : Nat) (hn : n = fl.length) (hcs : cs.toList = fCells fl) (hm : n ≤ 9223372036854775807) : FieldsV (w.alloc (.cells cs ty)) (.slice (some ⟨w.heap.size, 0, none⟩) n n) fl := by
  subst hn
  refine ⟨_, _, rfl, by simp, Nat.le_refl _, hm, ?_⟩
  rw [← hcs]; exact Row.lit _ _ _ _
namespace Wire
/-- The error of fields, and their bytes. -/
def allE : List WF → Int
  | [] => 0
  | f :: fl => if putE f.1 f.2 = 0 then allE fl else putE f.1 f.2
def cat (fl : List WF) : List (BitVec 8) := fl.flatMap fun f => putB f.1 f.2
def allB (fl : List WF) : List (BitVec 8) := if allE fl = 0 then cat fl else []
theorem putB_len (v : BitVec 64) (n : Int) : (putB v n).length ≤ 8 := by
  rcases putE_cases v n with ⟨h, _⟩ | ⟨h, _⟩ | ⟨h, k, rfl, h1, h2, h3⟩
  · rw [putB_no v n (by omega)]; simp
  · rw [putB_no v n (by omega)]; simp
  · rw [putB_ok v k h, le_len]; exact h2
theorem cat_len (fl : List WF) : (cat fl).length ≤ 8 * fl.length := by
  unfold cat
  induction fl with
  | nil => simp
  | cons f fl ih =>
    have := putB_len f.1 f.2
    rw [List.flatMap_cons, List.length_append, List.length_cons]; omega
theorem cat_take (fl : List WF) (k : Nat) (f : WF) (h : fl[k]? = some f) : cat (fl.take (k + 1)) = cat (fl.take k) ++ putB f.1 f.2 := by
  obtain ⟨hk, rfl⟩ := List.getElem?_eq_some_iff.1 h
  unfold cat
  rw [List.take_succ_eq_append_getElem hk, List.flatMap_append]; simp
theorem allE_take (fl : List WF) (k : Nat) (f : WF) (h : fl[k]? = some f) (h0 : allE (fl.take k) = 0) : allE (fl.take (k + 1)) = putE f.1 f.2 := by
  induction fl generalizing k with
  | nil => simp at h
  | cons g fl ih =>
    cases k with
    | zero => simp at h; subst h; simp only [List.take_succ_cons, List.take_zero, allE]; split <;> omega
    | succ k =>
      simp at h
      simp only [List.take_succ_cons, allE] at h0 ⊢
      split at h0
      · rename_i hg; rw [if_pos hg]; exact ih k h h0
      · omega
theorem allE_stop (fl : List WF) (k : Nat) (f : WF) (h : fl[k]? = some f) (h0 : allE (fl.take k) = 0) (he : putE f.1 f.2 ≠ 0) : allE fl = putE f.1 f.2 := by
  induction fl generalizing k with
  | nil => simp at h
  | cons g fl ih =>
    cases k with
    | zero => simp at h; subst h; simp [allE, he]
    | succ k =>
      simp at h
      simp only [List.take_succ_cons, allE] at h0 ⊢
      split at h0
      · rename_i hg; rw [if_pos hg]; exact ih k h h0
      · omega
end Wire
theorem addAll1_any (x : BitVec 64) (n : Int) (e : Int) (l : List (BitVec 8)) (w : World) (he : Wire.putE x n = e) (hl : Wire.putB x n = l) :
    Calls Tryd.prog 182 #[.agg #[.int .u64 (uv x), .int .i64 n]] w fun r w' => ∃ u, r = .returned (.tuple #[u, .int .i64 e]) ∧ w'.ownsRow w.heap.size 5 1 u l.length (by8 l) ∧ Below w.heap.size w w' := by
  have HE := Lib.hid he; clear he
  have HL := Lib.hid hl; clear hl
  go_enter Tryd.func182, Tryd.ntmps182
  go_wp2_with (go_at_call 137; refine (Put_at _ _ e l _ HE.out HL.out).mono ?_; rintro r w1 ⟨u, rfl, hown, hb⟩; have O := Lib.hid (own_base hown (gr_alloc w _).size); have B := Lib.hid (gr_tr (gr_alloc w _) hb); clear hown hb)
  go_ret2
  exact ⟨_, rfl, O.out, B.out⟩
set_option maxHeartbeats 800000 in
theorem eachB_any (v : Value) (fl : List WF) (w : World) (hv : FieldsV w v fl) (hs : fl.length ≤ 100000) :
    Calls Tryd.prog 181 #[v, .func (.func 182) #[] #[]] w fun e w' => ∃ u, e = .returned (.tuple #[u, .int .i64 (Wire.allE fl)]) ∧ w'.ownsRow w.heap.size 5 1 u (Wire.allB fl).length (by8 (Wire.allB fl)) ∧ Below w.heap.size w w' := by
  obtain ⟨a, c, rfl, hn, hc, hm, hrow⟩ := hv
  have HROW := Lib.hid hrow; clear hrow
  have HS := Lib.hid hs
  have hm' : fl.length ≤ 9223372036854775807 := by omega
  go_enter Tryd.func181, Tryd.ntmps181
  go_wp2
  go_loopw [4, 12] (fun u i wr => ∃ k : Nat, k ≤ fl.length ∧ i = .int .i64 k ∧ Hid (Wire.allE (fl.take k) = 0) ∧ wr.ownsRow w.heap.size 5 1 u (Wire.cat (fl.take k)).length (by8 (Wire.cat (fl.take k))) ∧ Below w.heap.size w wr) (fun _ i _ => fl.length - (intOf i).toNat)
  case atStart => exact ⟨0, by omega, rfl, rfl, World.ownsRow_nil _ _ _ _, Below.refl _ _⟩
  case round =>
    obtain ⟨k, hk, rfl, hE, hown, hb⟩ := hrel
    have HO := Lib.hid hown; clear hown
    have HB := Lib.hid hb; clear hb
    by_cases hlt : k < fl.length
    · obtain ⟨⟨x, n⟩, hx⟩ : ∃ f, fl[k]? = some f := ⟨fl[k], List.getElem?_eq_getElem hlt⟩
      obtain ⟨g1, g2⟩ := fCells_get fl k _ hx
      obtain ⟨b, o, rfl, c0⟩ := (HROW.out.below HB.out).at g1
      obtain ⟨b', o', e1, c1⟩ := (HROW.out.below HB.out).at g2
      cases e1
      rw [← Nat.add_assoc] at c1
      dsimp only at c0 c1
      obtain ⟨e, he⟩ : ∃ e, Wire.putE x n = e := ⟨_, rfl⟩
      obtain ⟨l, hl⟩ : ∃ l, Wire.putB x n = l := ⟨_, rfl⟩
      have hT := Wire.cat_take fl k _ hx
      have hET := Wire.allE_take fl k _ hx hE.out
      have hST := Wire.allE_stop fl k _ hx hE.out
      have hlen := Wire.cat_len (fl.take (k + 1))
      dsimp only at hT hET hST
      rw [he] at hET hST
      rw [hl] at hT
      have hll : (Wire.cat (fl.take k)).length + l.length ≤ 140737488355328 := by
        rw [← List.length_append, ← hT]; rw [List.length_take] at hlen; omega
      have HE := Lib.hid he; clear he
      have HL := Lib.hid hl; clear hl
      have HT := Lib.hid hT; clear hT
      have HET := Lib.hid hET; clear hET
      have HST := Lib.hid hST; clear hST
      have HLL := Lib.hid hll; clear hll
      clear hlen g1 g2 hx
      by_cases he0 : e = 0
      · subst he0
        go_wp2_with (first
          | (go_at_call 182; refine (addAll1_any _ _ _ l _ HE.out HL.out).mono ?_; rintro r w1 ⟨u1, rfl, hown, hb1⟩; have U1 := Lib.hid (BytesV.of_own hown); have C1 := Lib.hid (gr_tr (gr_alloc wr _) hb1); have B1 := Lib.hid (gr_tr HB.out C1.out); have O1 := Lib.hid (own_below HO.out C1.out); clear hown hb1)
          | (at_builtin; refine app_more rfl (.tmp 25) (.tmp 26) rfl _ w.heap.size _ _ rfl O1.out B1.out.size u1 l rfl U1.out HLL.out ?_; intro v' w2 hown hgr hbel; have O2 := Lib.hid hown; have B2 := Lib.hid (B1.out.trans hbel); clear hown hgr hbel))
        go_roundw
        case rel => exact ⟨k + 1, by omega, by go_num, HET.out, by rw [HT.out, List.length_append]; exact O2.out, B2.out⟩
        case measure => simp [intOf]; omega
      · have hq : (e != 0) = true := by simpa using he0
        have HE0 := Lib.hid he0; clear he0
        go_wp2_with (go_at_call 182; refine (addAll1_any _ _ _ l _ HE.out HL.out).mono ?_; rintro r w1 ⟨u1, rfl, hown, hb1⟩; have B1 := Lib.hid (gr_tr HB.out (gr_tr (gr_alloc wr _) hb1)); clear hown hb1)
        go_ret2
        refine ⟨.slice none 0 0, ?_, ?_, B1.out⟩
        · rw [HST.out HE0.out]; rfl
        · unfold Wire.allB; rw [HST.out HE0.out, if_neg HE0.out]; exact World.ownsRow_nil _ _ _ _
    · obtain rfl : k = fl.length := by omega
      go_wp2
      go_ret2
      have h1 := hE.out
      have h2 := HO.out
      rw [List.take_length] at h1 h2
      exact ⟨_, by rw [h1]; rfl, by unfold Wire.allB; rw [h1, if_pos rfl]; exact h2, HB.out⟩
theorem AddAll_any (base p : Nat) (v : Value) (l : List (BitVec 8)) (u : Value) (fl : List WF) (b : List (BitVec 8)) (e : Int) (w : World) (hw : WrAt w base p v l) (hu : FieldsV w u fl) (hb : base ≤ w.heap.size) (hs : fl.length ≤ 100000) (hbb : Wire.allB fl = b) (he : Wire.allE fl = e) :
    Calls Tryd.prog 145 #[.pointer (some ⟨p, 0, none⟩), u] w fun x w' => x = .returned (.int .i64 (addE l b e)) ∧ (∃ v', WrAt w' base p v' (addL l b e) ∧ (v'.ownBlock = v.ownBlock ∨ ∃ g, v'.ownBlock = some g ∧ w.heap.size ≤ g)) ∧ Chg (WrB p v) w w' := by
  have hlen : b.length ≤ 1000000000 := by
    rw [← hbb]; unfold Wire.allB; split
    · have := Wire.cat_len fl; omega
    · simp
  have WR := Lib.hid hw; clear hw
  have U := Lib.hid hu; clear hu
  have HBB := Lib.hid hbb; clear hbb
  have HE := Lib.hid he; clear he
  have HS := Lib.hid hs; clear hs
  have HLEN := Lib.hid hlen; clear hlen
  have HB := Lib.hid hb; clear hb
  go_enter Tryd.func145, Tryd.ntmps145
  go_wp2_with (first
    | (go_at_call 181; refine (eachB_any _ fl _ U.out HS.out).mono ?_; rintro r w1 ⟨u1, rfl, hown, hb1⟩; rw [HBB.out] at hown; rw [HE.out]; have U1 := Lib.hid (BytesV.of_own hown); have C1 := Lib.hid hb1; clear hown hb1)
    | (go_at_call 180; refine (add_any base p v l u1 b e _ (WR.out.below C1.out) U1.out (Nat.le_trans HB.out C1.out.size) HLEN.out).mono ?_; rintro r w2 ⟨rfl, ⟨v', hw2, hat⟩, hc⟩; have W2 := Lib.hid hw2; have AT := Lib.hid hat; have C2 := Lib.hid hc; clear hw2 hat hc))
  go_ret
  refine ⟨rfl, ⟨v', W2.out, ?_⟩, (Chg.of_below C1.out).trans C2.out⟩
  rcases AT.out with h | h
  · exact .inl h
  · exact .inr ⟨_, h, C1.out.size⟩
theorem Bytes_w (base p : Nat) (v : Value) (l : List (BitVec 8)) (w : World) (hw : WrAt w base p v l) :
    Calls Tryd.prog 148 #[.pointer (some ⟨p, 0, none⟩)] w fun x w' => ∃ u, x = .returned u ∧ w'.ownsRow w.heap.size 5 1 u l.length (by8 l) ∧ Below w.heap.size w w' := by
  have d0 : w.cell? ⟨p, 0, none⟩ = some v := (cell_of_row _ _ 0 _ _ _ hw.blk).trans rfl
  have V := Lib.hid (BytesV.of_own hw.own)
  have L := Lib.hid hw.len
  clear hw
  go_enter Tryd.func148, Tryd.ntmps148
  go_wp2_with (go_at_call 183; refine (Clone_any _ l _ V.out (by have := L.out; omega)).mono ?_; rintro r w1 ⟨u, rfl, hown, hb1⟩; have O := Lib.hid hown; have B := Lib.hid hb1; clear hown hb1)
  go_ret
  exact ⟨_, rfl, O.out, B.out⟩
end Go.Proofs.YthnnopjakpjoeaaDoor
