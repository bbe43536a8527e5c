/- The walk of WireTexts. -/
import Derived.Test.YteicmbapipnbjaaDoorLaw01B
import Derived.Test.YteicmbapipnbjaaDoorRef01D
namespace Go.Proofs.YteicmbapipnbjaaDoor
open Go.RowKit
set_option linter.unusedVariables false
set_option linter.unusedSimpArgs false
theorem lawTexts_in (v : Value) (l : List (BitVec 8)) (n : Int) (w : World) (hv : BytesV w v l) (hn : -9223372036854775808 ≤ n) (h200 : l.length ≤ 200) (hnn : (decide (n > 1000) && decide (n ≤ 1048576)) = false) (hn1 : n ≤ 1000 ∨ 1048576 < n) :
    Calls Tryd.prog 6 #[v, .int .i64 n] w fun e w' => e = .returned (.bool true) ∧ Below w.heap.size w w' := by
  obtain ⟨e, he⟩ : ∃ e, Wire.padE l n = e := ⟨_, rfl⟩
  obtain ⟨p, hp⟩ : ∃ e, Wire.pad l n = e := ⟨_, rfl⟩
  obtain ⟨f, hf⟩ : ∃ e, Wire.textE l = e := ⟨_, rfl⟩
  obtain ⟨t, ht⟩ : ∃ e, Wire.text l = e := ⟨_, rfl⟩
  have sx := run_string hv
  obtain ⟨a, c, hs, -⟩ := id hv
  subst hs
  have V := Lib.hid hv; have HE := Lib.hid he; have HP := Lib.hid hp; have HF := Lib.hid hf; have HT := Lib.hid ht; have HN := Lib.hid hn; have HL := Lib.hid (show l.length ≤ 140737488355328 by omega)
  have hd : decide ((l.length : Int) > 200) = false := by simp; omega
  clear hv he hp hf ht hn h200 hnn
  rcases hn1 with h | h
  · have d1 : decide (1000 < n) = false := decide_eq_false (by omega)
    clear h
    go_enter Tryd.func6, Tryd.ntmps6
    go_wp2_with (first
      | (go_at_call 21; go_loud (refine (Pad_at l n e p _ HL.out HN.out HE.out HP.out).mono ?_; rintro r w1 ⟨u, rfl, ho, hw⟩; have X := Lib.hid ho; have B := Lib.hid hw; clear sx; have sx := run_string (V.out.below hw); clear ho hw))
      | (go_at_call 22; go_loud (refine (rPad_at l n e p _ HL.out HN.out HE.out HP.out).mono ?_; rintro r w2 ⟨u2, rfl, ho, hw⟩; replace X := Lib.hid (X.out.below hw); have Y := Lib.hid ho; replace B := Lib.hid (gr_tr B.out hw); clear sx ho hw))
      | (go_at_call 23; go_loud (refine (Text_at _ l t f _ (V.out.below B.out) HL.out HF.out HT.out).mono ?_; rintro r w' ⟨rfl, rfl⟩))
      | (go_at_call 24; go_loud (refine (rText_at _ l t f _ (V.out.below B.out) HL.out HF.out HT.out).mono ?_; rintro r w' ⟨rfl, rfl⟩))
      | (go_at_call 13; go_loud (refine (same_at _ _ p p true _ X.out Y.out (by simp)).mono ?_; rintro r w' ⟨rfl, rfl⟩))
      | (go_at_call 14; go_loud (refine (known_any _).mono ?_; rintro r w3 ⟨rfl, hw⟩; replace B := Lib.hid (gr_tr B.out hw); clear hw)))
    go_ret
    exact ⟨rfl, B.out⟩
  · have d1 : decide (1000 < n) = true := decide_eq_true (by omega)
    have d2 : decide (n ≤ 1048576) = false := decide_eq_false (by omega)
    clear h
    go_enter Tryd.func6, Tryd.ntmps6
    go_wp2_with (first
      | (go_at_call 21; go_loud (refine (Pad_at l n e p _ HL.out HN.out HE.out HP.out).mono ?_; rintro r w1 ⟨u, rfl, ho, hw⟩; have X := Lib.hid ho; have B := Lib.hid hw; clear sx; have sx := run_string (V.out.below hw); clear ho hw))
      | (go_at_call 22; go_loud (refine (rPad_at l n e p _ HL.out HN.out HE.out HP.out).mono ?_; rintro r w2 ⟨u2, rfl, ho, hw⟩; replace X := Lib.hid (X.out.below hw); have Y := Lib.hid ho; replace B := Lib.hid (gr_tr B.out hw); clear sx ho hw))
      | (go_at_call 23; go_loud (refine (Text_at _ l t f _ (V.out.below B.out) HL.out HF.out HT.out).mono ?_; rintro r w' ⟨rfl, rfl⟩))
      | (go_at_call 24; go_loud (refine (rText_at _ l t f _ (V.out.below B.out) HL.out HF.out HT.out).mono ?_; rintro r w' ⟨rfl, rfl⟩))
      | (go_at_call 13; go_loud (refine (same_at _ _ p p true _ X.out Y.out (by simp)).mono ?_; rintro r w' ⟨rfl, rfl⟩))
      | (go_at_call 14; go_loud (refine (known_any _).mono ?_; rintro r w3 ⟨rfl, hw⟩; replace B := Lib.hid (gr_tr B.out hw); clear hw)))
    go_ret
    exact ⟨rfl, B.out⟩
theorem lawTexts (v : Value) (l : List (BitVec 8)) (n : Int) (w : World) (hv : BytesV w v l) (hn : -9223372036854775808 ≤ n ∧ n ≤ 9223372036854775807) :
    Calls Tryd.prog 6 #[v, .int .i64 n] w fun e w' => e = .returned (.bool true) ∧ Below w.heap.size w w' := by
  by_cases h200 : l.length ≤ 200
  · by_cases h : n ≤ 1000 ∨ 1048576 < n
    · refine lawTexts_in v l n w hv hn.1 h200 ?_ h
      rcases h with h | h
      · rw [decide_eq_false (by omega)]; rfl
      · rw [Bool.and_comm, decide_eq_false (by omega)]; rfl
    · have hd : decide ((l.length : Int) > 200) = false := by simp; omega
      have d1 : decide (1000 < n) = true := decide_eq_true (by omega)
      have d2 : decide (n ≤ 1048576) = true := decide_eq_true (by omega)
      obtain ⟨a, c, rfl, -⟩ := hv
      clear h200 h hn
      go_enter Tryd.func6, Tryd.ntmps6
      go_wp2_with (go_at_call 14; go_loud (refine (known_any _).mono ?_; rintro r w3 ⟨rfl, hw⟩; have B := Lib.hid hw; clear hw))
      go_ret
      exact ⟨rfl, B.out⟩
  · have hd : decide ((l.length : Int) > 200) = true := by simp; omega
    obtain ⟨a, c, rfl, -⟩ := hv
    clear h200 hn
    go_enter Tryd.func6, Tryd.ntmps6
    go_wp2_with (go_at_call 14; go_loud (refine (known_any _).mono ?_; rintro r w3 ⟨rfl, hw⟩; have B := Lib.hid hw; clear hw))
    go_ret
    exact ⟨rfl, B.out⟩
end Go.Proofs.YteicmbapipnbjaaDoor
