/- Plain laws of tuples and metadata: what is inserted is read back, stripped and regenerated. -/
import Derived.Test.YtmccihngbdopdaaProtJ
namespace Go.Proofs.Ytmccihngbdopdaa
set_option linter.unusedVariables false
set_option linter.unusedSimpArgs false
namespace Prot
theorem val_be (v : BitVec 64) (n : Nat) (hn : n ≤ 8) (h : n < 8 → v >>> (8 * n) = 0#64) : val (be v n) = v := by
  unfold val be
  rw [List.reverse_reverse]
  exact Wire.get_le v n hn h
theorem set16 (g : BitVec 16) : (g.setWidth 64).setWidth 16 = g := by
  apply BitVec.eq_of_getLsbD_eq; intro i hi
  have : i < 64 := by omega
  simp [hi, this]
theorem set32 (g : BitVec 32) : (g.setWidth 64).setWidth 32 = g := by
  apply BitVec.eq_of_getLsbD_eq; intro i hi
  have : i < 64 := by omega
  simp [hi, this]
theorem tg_bytes (g a : BitVec 16) (r : BitVec 32) : tg (bytes g a r) = g := by
  have h : (bytes g a r).take 2 = be (g.setWidth 64) 2 := by
    unfold bytes
    rw [List.append_assoc, List.take_append_of_le_length (by rw [be_len]; exact Nat.le_refl _), List.take_of_length_le (by rw [be_len]; exact Nat.le_refl _)]
  unfold tg
  rw [h, val_be _ _ (by omega) (fun _ => high16 g), set16]
theorem ta_bytes (g a : BitVec 16) (r : BitVec 32) : ta (bytes g a r) = a := by
  have h : ((bytes g a r).drop 2).take 2 = be (a.setWidth 64) 2 := by
    unfold bytes
    rw [List.append_assoc, List.drop_append_of_le_length (by rw [be_len]; exact Nat.le_refl _), List.drop_of_length_le (by rw [be_len]; exact Nat.le_refl _), List.nil_append, List.take_append_of_le_length (by rw [be_len]; exact Nat.le_refl _), List.take_of_length_le (by rw [be_len]; exact Nat.le_refl _)]
  unfold ta
  rw [h, val_be _ _ (by omega) (fun _ => high16 a), set16]
theorem tr_bytes (g a : BitVec 16) (r : BitVec 32) : tr (bytes g a r) = r := by
  have h : (bytes g a r).drop 4 = be (r.setWidth 64) 4 := by
    unfold bytes
    rw [List.drop_append_of_le_length (by rw [List.length_append, be_len, be_len]; exact Nat.le_refl _), List.drop_of_length_le (by rw [List.length_append, be_len, be_len]; exact Nat.le_refl _), List.nil_append]
  unfold tr
  rw [h, val_be _ _ (by omega) (fun _ => high32 r), set32]
def ins (fs : Bool) (l b : List (BitVec 8)) : List (BitVec 8) := if fs then b ++ l else l ++ b
variable {ty : Int} {fs : Bool} {l b : List (BitVec 8)}
theorem ins_len (hb : b.length = 8) : (ins fs l b).length = l.length + 8 := by
  unfold ins; split <;> simp [hb]; omega
theorem place_ins (hb : b.length = 8) : place fs (ins fs l b).length = if fs then 0 else l.length := by
  rw [ins_len hb]; unfold place; split <;> omega
theorem take_ins (hb : b.length = 8) : (ins fs l b).take (place fs (ins fs l b).length) = if fs then [] else l := by
  rw [place_ins hb]; unfold ins; cases fs <;> simp
theorem drop_ins (hb : b.length = 8) : (ins fs l b).drop (place fs (ins fs l b).length + 8) = if fs then l else [] := by
  rw [place_ins hb]; unfold ins; cases fs
  · simp [hb]
  · simp [← hb]
theorem cut_ins (hb : b.length = 8) : cut fs (ins fs l b) = b := by
  unfold cut; rw [place_ins hb]; unfold ins; cases fs
  · simp [← hb]
  · simp [← hb]
theorem insert_ins (h : ti ty fs = 0) : insert ty fs l b = ins fs l b := by unfold insert ins; rw [if_pos h]
theorem strip_ins (h : wr ty fs true (ins fs l b).length = 0) (hb : b.length = 8) : strip ty fs (ins fs l b) = l := by
  unfold strip; rw [if_pos h, take_ins hb, drop_ins hb]; cases fs <;> simp
theorem gen_ins (h : wr ty fs false (ins fs l b).length = 0) (h0 : ty ≠ 0) (hb : b.length = 8) (d : List (BitVec 8)) (a : BitVec 16) (r : BitVec 32) :
    gen ty fs d (ins fs l b) a r = ins fs l (bytes (guard ty fs d (ins fs l b)) a r) := by
  unfold gen; rw [if_pos h, if_neg h0, take_ins hb, drop_ins hb]; cases fs <;> simp [ins]
theorem guard_ins (h0 : ty ≠ 0) (hb : b.length = 8) (d : List (BitVec 8)) : guard ty fs d (ins fs l b) = Dig.crc16 (d ++ if fs then [] else l) := by
  unfold guard; rw [if_neg h0, take_ins hb]
/-- Generated metadata pass every check. -/
theorem chk_gen (h : wr ty fs false (ins fs l b).length = 0) (h0 : ty ≠ 0) (hb : b.length = 8) (d : List (BitVec 8)) (a : BitVec 16) (r : BitVec 32) (cg ca cr : Bool) (m : BitVec 16) :
    chk ty fs d (ins fs l (bytes (guard ty fs d (ins fs l b)) a r)) cg ca cr a m r = 0 := by
  have h8 := bytes_len (guard ty fs d (ins fs l b)) a r
  have hw : wr ty fs false (ins fs l (bytes (guard ty fs d (ins fs l b)) a r)).length = 0 := by rw [ins_len h8, ← ins_len (fs := fs) (l := l) hb]; exact h
  unfold chk
  rw [if_pos hw, if_neg h0, cut_ins h8, tg_bytes, ta_bytes, tr_bytes, guard_ins (b := bytes _ _ _) h0 h8, guard_ins (b := b) h0 hb]
  split
  · rfl
  · simp [code3]
end Prot
end Go.Proofs.Ytmccihngbdopdaa
