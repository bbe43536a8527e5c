/- The walk of WireBack. -/
import Derived.Test.YteicmbapipnbjaaDoorLaw01B
import Derived.Test.YteicmbapipnbjaaDoorWireM
import Derived.Test.YteicmbapipnbjaaDoorWireMath4
import Derived.Test.YteicmbapipnbjaaDoorPlan2
import Derived.Test.YteicmbapipnbjaaDoorGuarded
namespace Go.Proofs.YteicmbapipnbjaaDoor
open Go.RowKit
set_option linter.unusedVariables false
set_option linter.unusedSimpArgs false
theorem back_long (v0 : Value) (fl : List WF) (x : BitVec 64) (lo n : Int) (y : BitVec 64) (b : Int) (w : World) (hf : FieldsV w v0 fl) (h : 50 < fl.length) :
    Calls Tryd.prog 7 #[v0, .int .u64 (uv x), .int .i64 lo, .int .i64 n, .int .u64 (uv y), .int .i64 b] w fun e w' => e = .returned (.bool true) ∧ Below w.heap.size w w' := by
  obtain ⟨a, c, rfl, -⟩ := hf
  have hd : decide ((50 : Int) < (fl.length : Int)) = true := decide_eq_true (by omega)
  clear h
  go_enter Tryd.func7, Tryd.ntmps7
  go_wp2_with (go_at_call 14; go_loud (refine (known_any _).mono ?_; rintro r w3 ⟨rfl, hw⟩; have B := Lib.hid hw; clear hw))
  go_ret
  exact ⟨rfl, B.out⟩
set_option maxHeartbeats 1600000 in
set_option maxRecDepth 8000 in
theorem back_no (v0 : Value) (fl : List WF) (x : BitVec 64) (lo n : Int) (y : BitVec 64) (b : Int) (w : World) (hf : FieldsV w v0 fl) (hlo : -9223372036854775808 ≤ lo ∧ lo ≤ 9223372036854775807) (h : fl.length ≤ 50) (he : addE [] (Wire.allB fl) (Wire.allE fl) ≠ 0) (hins : Wire.insE lo n y ≠ 0) :
    Calls Tryd.prog 7 #[v0, .int .u64 (uv x), .int .i64 lo, .int .i64 n, .int .u64 (uv y), .int .i64 b] w fun e w' => e = .returned (.bool true) ∧ Below w.heap.size w w' := by
  obtain ⟨e, hee⟩ : ∃ e, addE [] (Wire.allB fl) (Wire.allE fl) = e := ⟨_, rfl⟩
  rw [hee] at he
  have hq : (e == 0) = false := by simpa using he
  obtain ⟨l8, hl8⟩ : ∃ l, Wire.putB x 8 = l := ⟨_, rfl⟩
  obtain ⟨h1, h2, h3⟩ := Wire.put8 x
  rw [hl8] at h2 h3
  obtain ⟨ie, hie⟩ : ∃ e, Wire.insE lo n y = e := ⟨_, rfl⟩
  obtain ⟨z, hz⟩ : ∃ e, Wire.insV x lo n y = e := ⟨_, rfl⟩
  rw [hie] at hins
  have hq2 : (ie != 0) = true := by simpa using hins
  have F := Lib.hid hf; have HEE := Lib.hid hee; have HL8 := Lib.hid hl8; have P1 := Lib.hid h1; have P2 := Lib.hid h2; have P3 := Lib.hid h3; have HIE := Lib.hid hie; have HZ := Lib.hid hz; have HLO := Lib.hid hlo; have HLEN := Lib.hid h
  obtain ⟨a, c, rfl, -⟩ := hf
  have hd : decide ((50 : Int) < (fl.length : Int)) = false := decide_eq_false (by omega)
  clear hee he hl8 h1 h2 h3 hie hz hins hlo h
  go_enter Tryd.func7, Tryd.ntmps7
  go_wp2_with (first
    | (go_at_call 25; go_loud (refine (AddAll_any _ _ _ [] _ fl _ _ _ (wr_new w) (F.out.below (gr_alloc _ _)) (Nat.le_of_lt (by simp)) (by have := HLEN.out; omega) rfl rfl).mono ?_; rw [HEE.out]; rintro r w1 ⟨rfl, -, hc⟩; have D := Lib.hid (wr_fresh (wr_new w) hc (gr_alloc w _) (Nat.le_refl _) (Nat.le_refl _)); clear hc))
    | (go_at_call 11; go_loud (refine (Put_at x 8 0 l8 _ P1.out HL8.out).mono ?_; rintro r w2 ⟨u, rfl, ho, hw⟩; have X := Lib.hid (BytesV.of_own ho); replace D := Lib.hid (D.out.trans (hw.mono D.out.size)); clear ho hw))
    | (go_at_call 15; go_loud (refine (Get_at _ l8 x 0 _ X.out P2.out P3.out).mono ?_; rintro r w' ⟨rfl, rfl⟩))
    | (go_at_call 19; go_loud (refine (Insert_at x lo n y z ie _ HLO.out HZ.out HIE.out).mono ?_; rintro r w3 ⟨rfl, hw⟩; replace D := Lib.hid (D.out.trans (hw.mono D.out.size)); clear hw))
    | (go_at_call 14; go_loud (refine (known_any _).mono ?_; rintro r w17 ⟨rfl, hw⟩; replace D := Lib.hid (D.out.trans (hw.mono D.out.size)); clear hw)))
  go_ret
  exact ⟨rfl, D.out⟩
set_option maxHeartbeats 1600000 in
set_option maxRecDepth 8000 in
theorem back_ins (v0 : Value) (fl : List WF) (x : BitVec 64) (lo n : Nat) (y : BitVec 64) (b : Int) (w : World) (hf : FieldsV w v0 fl) (hl1 : lo ≤ 63) (hl2 : n ≤ 64 - lo) (h : fl.length ≤ 50) (he : addE [] (Wire.allB fl) (Wire.allE fl) ≠ 0) (hins : Wire.insE lo n y = 0) :
    Calls Tryd.prog 7 #[v0, .int .u64 (uv x), .int .i64 lo, .int .i64 n, .int .u64 (uv y), .int .i64 b] w fun e w' => e = .returned (.bool true) ∧ Below w.heap.size w w' := by
  obtain ⟨e, hee⟩ : ∃ e, addE [] (Wire.allB fl) (Wire.allE fl) = e := ⟨_, rfl⟩
  rw [hee] at he
  have hq : (e == 0) = false := by simpa using he
  obtain ⟨l8, hl8⟩ : ∃ l, Wire.putB x 8 = l := ⟨_, rfl⟩
  obtain ⟨h1, h2, h3⟩ := Wire.put8 x
  rw [hl8] at h2 h3
  obtain ⟨z, hz⟩ : ∃ e, Wire.insV x lo n y = e := ⟨_, rfl⟩
  obtain ⟨g1, g2⟩ := Wire.ins_back x lo n y hins
  have g3 := fun p hp ho => Wire.ins_out x lo n y p hins hp ho
  rw [hz] at g2 g3
  have F := Lib.hid hf; have HEE := Lib.hid hee; have HL8 := Lib.hid hl8; have P1 := Lib.hid h1; have P2 := Lib.hid h2; have P3 := Lib.hid h3; have HIE := Lib.hid hins; have HZ := Lib.hid hz; have HLEN := Lib.hid h; have G1 := Lib.hid g1; have G2 := Lib.hid g2; have G3 := Lib.hid g3
  have HL1 := Lib.hid hl1; have HL2 := Lib.hid hl2
  have ws : IntKind.i64.wrap ((lo : Int) + (n : Int)) = (lo : Int) + (n : Int) := by
    unfold IntKind.wrap; simp [IntKind.bits, IntKind.signed]; omega
  obtain ⟨a, c, rfl, -⟩ := hf
  have hd : decide ((50 : Int) < (fl.length : Int)) = false := decide_eq_false (by omega)
  clear hee he hl8 h1 h2 h3 hz hins h g1 g2 g3
  go_enter Tryd.func7, Tryd.ntmps7
  go_upto_region 27 with (first
    | (go_at_call 25; go_loud (refine (AddAll_any _ _ _ [] _ fl _ _ _ (wr_new w) (F.out.below (gr_alloc _ _)) (Nat.le_of_lt (by simp)) (by have := HLEN.out; omega) rfl rfl).mono ?_; rw [HEE.out]; rintro r w1 ⟨rfl, -, hc⟩; have D := Lib.hid (wr_fresh (wr_new w) hc (gr_alloc w _) (Nat.le_refl _) (Nat.le_refl _)); clear hc))
    | (go_at_call 11; go_loud (refine (Put_at x 8 0 l8 _ P1.out HL8.out).mono ?_; rintro r w2 ⟨u, rfl, ho, hw⟩; have X := Lib.hid (BytesV.of_own ho); replace D := Lib.hid (D.out.trans (hw.mono D.out.size)); clear ho hw))
    | (go_at_call 15; go_loud (refine (Get_at _ l8 x 0 _ X.out P2.out P3.out).mono ?_; rintro r w' ⟨rfl, rfl⟩))
    | (go_at_call 19; go_loud (refine (Insert_at x lo n y z 0 _ (by have := HL1.out; omega) HZ.out HIE.out).mono ?_; rintro r w3 ⟨rfl, hw⟩; replace D := Lib.hid (D.out.trans (hw.mono D.out.size)); clear hw))
    | (go_at_call 17; go_loud (refine (Field_at z lo n y 0 _ (by have := HL1.out; omega) G2.out G1.out).mono ?_; rintro r w' ⟨rfl, rfl⟩)))
  by_cases hb : b < 0 ∨ 63 < b ∨ ((lo : Int) ≤ b ∧ b < (lo : Int) + n)
  · rcases hb with hb | hb | ⟨hb, hb'⟩
    · go_wp2_with (go_at_call 14; go_loud (refine (known_any _).mono ?_; rintro r w17 ⟨rfl, hw⟩; replace D := Lib.hid (D.out.trans (hw.mono D.out.size)); clear hw))
      go_ret
      exact ⟨rfl, D.out⟩
    · go_wp2_with (go_at_call 14; go_loud (refine (known_any _).mono ?_; rintro r w17 ⟨rfl, hw⟩; replace D := Lib.hid (D.out.trans (hw.mono D.out.size)); clear hw))
      go_ret
      exact ⟨rfl, D.out⟩
    · have q1 : decide (b < 0) = false := decide_eq_false (by omega)
      have q2 : decide (63 < b) = false := decide_eq_false (by omega)
      have q3 : decide ((lo : Int) ≤ b) = true := decide_eq_true hb
      have q4 : decide (b < (lo : Int) + n) = true := decide_eq_true hb'
      clear hb hb'
      go_wp2_with (go_at_call 14; go_loud (refine (known_any _).mono ?_; rintro r w17 ⟨rfl, hw⟩; replace D := Lib.hid (D.out.trans (hw.mono D.out.size)); clear hw))
      go_ret
      exact ⟨rfl, D.out⟩
  · obtain ⟨p, rfl⟩ := Int.eq_ofNat_of_zero_le (show 0 ≤ b by omega)
    have hp : p ≤ 63 := by omega
    have G4 := Lib.hid (G3.out p hp (by omega))
    by_cases hb1 : p < lo
    · have q1 : decide ((p : Int) < 0) = false := decide_eq_false (by omega)
      have q2 : decide (63 < (p : Int)) = false := decide_eq_false (by omega)
      have q3 : decide (lo ≤ p) = false := decide_eq_false (by omega)
      clear hb hb1
      go_wp2
      refine wp_region_planW nowhere [(true, 0), (true, 1), (true, 2), (true, 3), (true, 4), (true, 5), (true, 6), (true, 7), (true, 8), (true, 9), (false, 10), (true, 11), (true, 12)]
        (by kernel_rfl) (by kernel_rfl) (by intro c a d v w h; cases d <;> exact h) ?_
      intro W1 K1 C1
      replace D := Lib.hid (D.out.trans (C1.out.mono D.out.size))
      repeat (refine wpS_firm rfl (fun K hK => ?_); simp only [Keep]; go_simp; refine hK _ ?_; clear hK K)
      refine wpS_chain rfl ?_
      go_wp2_with (go_at_call 14; go_loud (refine (known_any _).mono ?_; rintro r w17 ⟨rfl, hw⟩; replace D := Lib.hid (D.out.trans (hw.mono D.out.size)); have K2 := Lib.hid (K1.out.below hw); clear hw))
      refine ⟨K2.out, ?_⟩
      repeat (refine wpS_firm rfl (fun K hK => ?_); simp only [Keep]; go_simp; refine hK _ ?_; clear hK K)
      unfold wpS
      go_wp2
      go_ret
      exact ⟨rfl, D.out⟩
    · have q1 : decide ((p : Int) < 0) = false := decide_eq_false (by omega)
      have q2 : decide (63 < (p : Int)) = false := decide_eq_false (by omega)
      have q3 : decide (lo ≤ p) = true := decide_eq_true (by omega)
      have q4 : decide (p < lo + n) = false := decide_eq_false (by omega)
      have q5 : decide ((p : Int) < (lo : Int) + n) = false := decide_eq_false (by omega)
      clear hb hb1
      go_wp2
      refine wp_region_planW nowhere [(true, 0), (true, 1), (true, 2), (true, 3), (true, 4), (true, 5), (true, 6), (true, 7), (true, 8), (true, 9), (false, 10), (true, 11), (true, 12)]
        (by kernel_rfl) (by kernel_rfl) (by intro c a d v w h; cases d <;> exact h) ?_
      intro W1 K1 C1
      replace D := Lib.hid (D.out.trans (C1.out.mono D.out.size))
      repeat (refine wpS_firm rfl (fun K hK => ?_); simp only [Keep]; go_simp; refine hK _ ?_; clear hK K)
      refine wpS_chain rfl ?_
      go_wp2_with (go_at_call 14; go_loud (refine (known_any _).mono ?_; rintro r w17 ⟨rfl, hw⟩; replace D := Lib.hid (D.out.trans (hw.mono D.out.size)); have K2 := Lib.hid (K1.out.below hw); clear hw))
      refine ⟨K2.out, ?_⟩
      repeat (refine wpS_firm rfl (fun K hK => ?_); simp only [Keep]; go_simp; refine hK _ ?_; clear hK K)
      unfold wpS
      go_wp2
      go_ret
      exact ⟨rfl, D.out⟩
end Go.Proofs.YteicmbapipnbjaaDoor
