/- The walks of package wire: each over fields, AddAll, Bytes. -/
import Derived.Test.YtabfmhlhdebcpaaGreatDoorWireC
namespace Go.Proofs.YtabfmhlhdebcpaaGreatDoor
open Go.RowKit
set_option linter.unusedVariables false
set_option linter.unusedSimpArgs false
abbrev WF := BitVec 64 × Int
/-- Fields as cells. -/
def fCells (fl : List WF) : List Value := fl.flatMap fun f => [.int .u64 (uv f.1), .int .i64 f.2]
theorem fCells_len (fl : List WF) : (fCells fl).length = fl.length * 2 := by
  unfold fCells
  induction fl with
  | nil => rfl
  | cons f fl ih => simp [ih]; omega
theorem fCells_get (fl : List WF) (k : Nat) (f : WF) (h : fl[k]? = some f) : (fCells fl)[k * 2]? = some (.int .u64 (uv f.1)) ∧ (fCells fl)[k * 2 + 1]? = some (.int .i64 f.2) := by
  induction fl generalizing k with
  | nil => simp at h
  | cons g fl ih =>
    cases k with
    | zero => simp at h; subst h; exact ⟨rfl, rfl⟩
    | succ k =>
      simp at h
      obtain ⟨h1, h2⟩ := ih k h
      have e1 : (k + 1) * 2 = k * 2 + 1 + 1 := by omega
      unfold fCells at h1 h2 ⊢
      rw [List.flatMap_cons, e1]
      exact ⟨h1, h2⟩
def FieldsV (w : World) (v : Value) (fl : List WF) : Prop :=
  ∃ a c, v = .slice a fl.length c ∧ (a = none → c = 0) ∧ fl.length ≤ c ∧ c ≤ 9223372036854775807 ∧ Row w a (fCells fl)
theorem FieldsV.below {w w' : World} {v : Value} {fl : List WF} (h : FieldsV w v fl) (hb : Below w.heap.size w w') : FieldsV w' v fl := by
  obtain ⟨a, c, e, h0, h1, h2, h3⟩ := h
  exact ⟨a, c, e, h0, h1, h2, h3.below hb⟩
theorem FieldsV.lit (w : World) (cs : Array Value) (ty : TypeId) (fl : List WF) (n : Nat) (hn : n = fl.length) (hcs : cs.toList = fCells fl) (hm : n ≤ 9223372036854775807) : FieldsV (w.alloc (.cells cs ty)) (.slice (some ⟨w.heap.size, 0, none⟩) n n) fl := by
  subst hn
  refine ⟨_, _, rfl, by simp, Nat.le_refl _, hm, ?_⟩
  rw [← hcs]; exact Row.lit _ _ _ _
namespace Wire
/-- The error of fields, and their bytes. -/
def allE : List WF → Int
  | [] => 0
  | f :: fl => if putE f.1 f.2 = 0 then allE fl else putE f.1 f.2
def cat (fl : List WF) : List (BitVec 8) := fl.flatMap fun f => putB f.1 f.2
def allB (fl : List WF) : List (BitVec 8) := if allE fl = 0 then cat fl else []
theorem putB_len (v : BitVec 64) (n : Int) : (putB v n).length ≤ 8 := by
  rcases putE_cases v n with ⟨h, _⟩ | ⟨h, _⟩ | ⟨h, k, rfl, h1, h2, h3⟩
  · rw [putB_no v n (by omega)]; simp
  · rw [putB_no v n (by omega)]; simp
  · rw [putB_ok v k h, le_len]; exact h2
theorem cat_len (fl : List WF) : (cat fl).length ≤ 8 * fl.length := by
  unfold cat
  induction fl with
  | nil => simp
  | cons f fl ih =>
    have := putB_len f.1 f.2
    rw [List.flatMap_cons, List.length_append, List.length_cons]; omega
theorem cat_take (fl : List WF) (k : Nat) (f : WF) (h : fl[k]? = some f) : cat (fl.take (k + 1)) = cat (fl.take k) ++ putB f.1 f.2 := by
  obtain ⟨hk, rfl⟩ := List.getElem?_eq_some_iff.1 h
  unfold cat
  rw [List.take_succ_eq_append_getElem hk, List.flatMap_append]; simp
theorem allE_take (fl : List WF) (k : Nat) (f : WF) (h : fl[k]? = some f) (h0 : allE (fl.take k) = 0) : allE (fl.take (k + 1)) = putE f.1 f.2 := by
  induction fl generalizing k with
  | nil => simp at h
  | cons g fl ih =>
    cases k with
    | zero => simp at h; subst h; simp only [List.take_succ_cons, List.take_zero, allE]; split <;> omega
    | succ k =>
      simp at h
      simp only [List.take_succ_cons, allE] at h0 ⊢
      split at h0
      · rename_i hg; rw [if_pos hg]; exact ih k h h0
      · omega
theorem allE_stop (fl : List WF) (k : Nat) (f : WF) (h : fl[k]? = some f) (h0 : allE (fl.take k) = 0) (he : putE f.1 f.2 ≠ 0) : allE fl = putE f.1 f.2 := by
  induction fl generalizing k with
  | nil => simp at h
  | cons g fl ih =>
    cases k with
    | zero => simp at h; subst h; simp [allE, he]
    | succ k =>
      simp at h
      simp only [List.take_succ_cons, allE] at h0 ⊢
      split at h0
      · rename_i hg; rw [if_pos hg]; exact ih k h h0
      · omega
end Wire
theorem Bytes_w (base p : Nat) (v : Value) (l : List (BitVec 8)) (w : World) (hw : WrAt w base p v l) :
    Calls Tryz.prog 36 #[.pointer (some ⟨p, 0, none⟩)] w fun x w' => ∃ u, x = .returned u ∧ w'.ownsRow w.heap.size 5 1 u l.length (by8 l) ∧ Below w.heap.size w w' := by
  have d0 : w.cell? ⟨p, 0, none⟩ = some v := (cell_of_row _ _ 0 _ _ _ hw.blk).trans rfl
  have V := Lib.hid (BytesV.of_own hw.own)
  have L := Lib.hid hw.len
  clear hw
  go_enter Tryz.func36, Tryz.ntmps36
  go_wp2_with (go_at_call 42; refine (Clone_any _ l _ V.out (by have := L.out; omega)).mono ?_; rintro r w1 ⟨u, rfl, hown, hb1⟩; have O := Lib.hid hown; have B := Lib.hid hb1; clear hown hb1)
  go_ret
  exact ⟨_, rfl, O.out, B.out⟩
end Go.Proofs.YtabfmhlhdebcpaaGreatDoor
