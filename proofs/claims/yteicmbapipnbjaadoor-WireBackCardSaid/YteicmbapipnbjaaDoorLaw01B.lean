/- The walks of WirePuts, WireGets, WireFields. -/
import Derived.Test.YteicmbapipnbjaaDoorLaw01A
namespace Go.Proofs.YteicmbapipnbjaaDoor
open Go.RowKit
set_option linter.unusedVariables false
set_option linter.unusedSimpArgs false
theorem lawPuts (v : BitVec 64) (n : Int) (w : World) (_ : -9223372036854775808 ≤ n ∧ n ≤ 9223372036854775807) :
    Calls Tryd.prog 3 #[.int .u64 (uv v), .int .i64 n] w fun e w' => e = .returned (.bool true) ∧ Below w.heap.size w w' := by
  obtain ⟨e, he⟩ : ∃ e, Wire.putE v n = e := ⟨_, rfl⟩
  obtain ⟨l, hl⟩ : ∃ l, Wire.putB v n = l := ⟨_, rfl⟩
  have HE := Lib.hid he; have HL := Lib.hid hl; clear he hl
  go_enter Tryd.func3, Tryd.ntmps3
  go_wp2_with (first
    | (go_at_call 11; go_loud (refine (Put_at v n e l _ HE.out HL.out).mono ?_; rintro r w1 ⟨u, rfl, ho, hw⟩; have X := Lib.hid (BytesV.of_own ho); have B := Lib.hid hw; clear ho hw))
    | (go_at_call 12; go_loud (refine (rPut_at v n e l _ HE.out HL.out).mono ?_; rintro r w2 ⟨u2, rfl, ho, hw⟩; replace X := Lib.hid (X.out.below hw); have Y := Lib.hid ho; replace B := Lib.hid (gr_tr B.out hw); clear ho hw))
    | (go_at_call 13; go_loud (refine (same_at _ _ l l true _ X.out Y.out (by simp)).mono ?_; rintro r w' ⟨rfl, rfl⟩))
    | (go_at_call 14; go_loud (refine (known_any _).mono ?_; rintro r w3 ⟨rfl, hw⟩; replace B := Lib.hid (gr_tr B.out hw); clear hw)))
  go_ret
  exact ⟨rfl, B.out⟩
theorem lawGets (v : Value) (l : List (BitVec 8)) (w : World) (hv : BytesV w v l) :
    Calls Tryd.prog 4 #[v] w fun e w' => e = .returned (.bool true) ∧ Below w.heap.size w w' := by
  obtain ⟨e, he⟩ : ∃ e, Wire.getE l = e := ⟨_, rfl⟩
  obtain ⟨x, hx⟩ : ∃ l', Wire.getV l = l' := ⟨_, rfl⟩
  obtain ⟨a, c, hs, -⟩ := id hv
  subst hs
  have V := Lib.hid hv; have HE := Lib.hid he; have HX := Lib.hid hx; clear he hx hv
  by_cases h : l.length ≤ 20
  · have hd : decide ((l.length : Int) > 20) = false := by simp; omega
    clear h
    go_enter Tryd.func4, Tryd.ntmps4
    go_wp2_with (first
      | (go_at_call 15; go_loud (refine (Get_at _ l x e _ V.out HX.out HE.out).mono ?_; rintro r w' ⟨rfl, rfl⟩))
      | (go_at_call 16; go_loud (refine (rGet_at _ l x e _ V.out HX.out HE.out).mono ?_; rintro r w' ⟨rfl, rfl⟩))
      | (go_at_call 14; go_loud (refine (known_any _).mono ?_; rintro r w3 ⟨rfl, hw⟩; have B := Lib.hid hw; clear hw)))
    go_ret
    exact ⟨rfl, B.out⟩
  · have hd : decide ((l.length : Int) > 20) = true := by simp; omega
    clear h
    go_enter Tryd.func4, Tryd.ntmps4
    go_wp2_with (go_at_call 14; go_loud (refine (known_any _).mono ?_; rintro r w3 ⟨rfl, hw⟩; have B := Lib.hid hw; clear hw))
    go_ret
    exact ⟨rfl, B.out⟩
theorem lawFields (v : BitVec 64) (lo n : Int) (x : BitVec 64) (w : World) (hlo : -9223372036854775808 ≤ lo ∧ lo ≤ 9223372036854775807) (_ : -9223372036854775808 ≤ n ∧ n ≤ 9223372036854775807) :
    Calls Tryd.prog 5 #[.int .u64 (uv v), .int .i64 lo, .int .i64 n, .int .u64 (uv x)] w fun e w' => e = .returned (.bool true) ∧ Below w.heap.size w w' := by
  obtain ⟨e, he⟩ : ∃ e, Wire.fieldE lo n = e := ⟨_, rfl⟩
  obtain ⟨y, hy⟩ : ∃ l', Wire.fieldV v lo n = l' := ⟨_, rfl⟩
  obtain ⟨f, hf⟩ : ∃ e, Wire.insE lo n x = e := ⟨_, rfl⟩
  obtain ⟨z, hz⟩ : ∃ l', Wire.insV v lo n x = l' := ⟨_, rfl⟩
  have HLO := Lib.hid hlo; have HE := Lib.hid he; have HY := Lib.hid hy; have HF := Lib.hid hf; have HZ := Lib.hid hz
  clear hlo he hy hf hz
  go_enter Tryd.func5, Tryd.ntmps5
  go_wp2_with (first
    | (go_at_call 17; go_loud (refine (Field_at v lo n y e _ HLO.out HY.out HE.out).mono ?_; rintro r w' ⟨rfl, rfl⟩))
    | (go_at_call 18; go_loud (refine (rField_at v lo n y e _ HLO.out HY.out HE.out).mono ?_; rintro r w' ⟨rfl, rfl⟩))
    | (go_at_call 19; go_loud (refine (Insert_at v lo n x z f _ HLO.out HZ.out HF.out).mono ?_; rintro r w1 ⟨rfl, hw⟩; have B := Lib.hid hw; clear hw))
    | (go_at_call 20; go_loud (refine (rInsert_at v lo n x z f _ HLO.out HZ.out HF.out).mono ?_; rintro r w' ⟨rfl, rfl⟩))
    | (go_at_call 14; go_loud (refine (known_any _).mono ?_; rintro r w3 ⟨rfl, hw⟩; replace B := Lib.hid (gr_tr B.out hw); clear hw)))
  go_ret
  exact ⟨rfl, B.out⟩
end Go.Proofs.YteicmbapipnbjaaDoor
