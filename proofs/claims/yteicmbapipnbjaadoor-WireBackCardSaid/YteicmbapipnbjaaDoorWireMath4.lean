/- The plain laws of the chapter's round trips. -/
import Derived.Test.YteicmbapipnbjaaDoorWireF
import Derived.Test.YteicmbapipnbjaaDoorWireD
import Derived.Test.YteicmbapipnbjaaDoorWireH
namespace Go.Proofs.YteicmbapipnbjaaDoor
open Go.RowKit
set_option linter.unusedVariables false
set_option linter.unusedSimpArgs false
namespace Wire
theorem cat_cons (f : WF) (fl : List WF) : cat (f :: fl) = putB f.1 f.2 ++ cat fl := by unfold cat; rw [List.flatMap_cons]
theorem trip (fl : List WF) (r : List (BitVec 8)) (h : allE fl = 0) :
    readE (cat fl ++ r) (fl.map (·.2)) = 0 ∧ readV (cat fl ++ r) (fl.map (·.2)) = fl.map (·.1) ∧ readL (cat fl ++ r) (fl.map (·.2)) = r := by
  induction fl with
  | nil => exact ⟨rfl, rfl, rfl⟩
  | cons f fl ih =>
    obtain ⟨v, n⟩ := f
    unfold allE at h
    simp only at h
    split at h
    · rename_i e
      obtain ⟨i1, i2, i3⟩ := ih h
      rcases putE_cases v n with ⟨h', _⟩ | ⟨h', _⟩ | ⟨_, k, rfl, h1, h2, h3⟩
      · omega
      · omega
      · have hb := putB_ok v k e
        have hl := le_len v k
        have hd : (cat ((v, (k : Int)) :: fl) ++ r).drop k = cat fl ++ r := by
          rw [cat_cons]; simp only; rw [hb, List.append_assoc, List.drop_left' hl]
        have ht : (cat ((v, (k : Int)) :: fl) ++ r).take k = le v k := by
          rw [cat_cons]; simp only; rw [hb, List.append_assoc, List.take_left' hl]
        have he : takeE (cat ((v, (k : Int)) :: fl) ++ r) k = 0 := by
          unfold takeE
          rw [if_neg (by omega), if_neg]
          rw [cat_cons]; simp only; rw [hb, List.append_assoc, List.length_append, hl]; omega
        simp only [List.map_cons]
        unfold readE readV readL
        rw [if_pos he, Int.toNat_natCast, hd, ht, get_le v k h2 h3]
        exact ⟨i1, by rw [i2], i3⟩
    · rename_i e; exact absurd h e
theorem trip_all (fl : List WF) (h : allE fl = 0) :
    readE (allB fl) (fl.map (·.2)) = 0 ∧ readV (allB fl) (fl.map (·.2)) = fl.map (·.1) ∧ readL (allB fl) (fl.map (·.2)) = [] := by
  have := trip fl [] h
  rw [List.append_nil] at this
  unfold allB
  rw [if_pos h]
  exact this
theorem put8 (v : BitVec 64) : putE v 8 = 0 ∧ getV (putB v 8) = v ∧ getE (putB v 8) = 0 := by
  have h0 : putE v 8 = 0 := by unfold putE; rw [if_neg (by omega), if_neg (by omega)]
  have hb : putB v 8 = le v 8 := putB_ok v 8 h0
  have hg : getE (le v 8) = 0 := by unfold getE; rw [le_len, if_neg (by omega)]
  refine ⟨h0, ?_, by rw [hb]; exact hg⟩
  rw [hb]; unfold getV; rw [if_pos hg]
  exact get_le v 8 (Nat.le_refl _) (fun h => absurd h (by omega))
theorem ins_ok {lo n : Int} {x : BitVec 64} (h : insE lo n x = 0) : okField lo n = true ∧ x >>> n.toNat = 0#64 := by
  unfold insE at h
  split at h
  · rename_i e
    split at h
    · rename_i e2; exact ⟨e, e2⟩
    · omega
  · omega
theorem ins_back (v : BitVec 64) (lo n : Int) (x : BitVec 64) (h : insE lo n x = 0) : fieldE lo n = 0 ∧ fieldV (insV v lo n x) lo n = x := by
  obtain ⟨h1, h2⟩ := ins_ok h
  obtain ⟨a, b, rfl, rfl, ha, hb, hab⟩ := okField_nat h1
  refine ⟨by unfold fieldE; rw [if_pos h1], ?_⟩
  unfold fieldV insV
  rw [if_pos h1, if_pos h, Int.toNat_natCast, Int.toNat_natCast]
  exact field_ins v x a b (by omega) (by simpa using h2)
theorem ins_out (v : BitVec 64) (lo n : Int) (x : BitVec 64) (p : Nat) (h : insE lo n x = 0) (hp : p ≤ 63) (ho : (p : Int) < lo ∨ lo + n ≤ p) : v >>> p &&& 1#64 = insV v lo n x >>> p &&& 1#64 := by
  obtain ⟨h1, h2⟩ := ins_ok h
  obtain ⟨a, b, rfl, rfl, ha, hb, hab⟩ := okField_nat h1
  unfold insV
  rw [if_pos h, Int.toNat_natCast, Int.toNat_natCast]
  refine BitVec.eq_of_getLsbD_eq fun i hi => ?_
  have e1 := bit_at v p 0 i hi
  have e2 := bit_at (ins v a b x) p 0 i hi
  rw [BitVec.shiftLeft_zero] at e1 e2
  rw [e1, e2, ins_bit v x a b p (by omega) (by simpa using h2) (by omega), if_neg (by omega)]
end Wire
end Go.Proofs.YteicmbapipnbjaaDoor
