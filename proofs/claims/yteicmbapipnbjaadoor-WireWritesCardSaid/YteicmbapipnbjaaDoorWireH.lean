/- The walks of bit fields: wire.mask, Field, Insert. -/
import Derived.Test.YteicmbapipnbjaaDoorWireB
import Derived.Deep.QuietTactic
import Derived.BigQuiet
import Derived.Deep.DeepCutAuto
namespace Go.Proofs.YteicmbapipnbjaaDoor
open Go.RowKit
set_option linter.unusedVariables false
set_option linter.unusedSimpArgs false
namespace Wire
theorem one_shl (w : Nat) : BitVec.ofInt 64 (2 ^ w) = 1#64 <<< w := by
  apply BitVec.eq_of_toNat_eq
  have e : ((2 : Int) ^ w) = ((2 ^ w : Nat) : Int) := by push_cast; rfl
  rw [e, BitVec.ofInt_natCast, BitVec.toNat_ofNat, BitVec.toNat_shiftLeft, Nat.shiftLeft_eq]
  simp
end Wire
theorem mask_no (lo w : Int) (W : World) (h : Wire.okField lo w = false) (hw : -1000 ≤ lo ∧ lo ≤ 1000 ∨ True) (hlo : -9223372036854775808 ≤ lo ∧ lo ≤ 9223372036854775807) :
    Calls Tryd.prog 45 #[.int .i64 lo, .int .i64 w] W fun e w' => e = .returned (.tuple #[.int .u64 0, .bool false]) ∧ W = w' := by
  clear hw
  unfold Wire.okField at h
  by_cases h1 : lo < 0
  · clear h
    go_enter Tryd.func45, Tryd.ntmps45
    go_wp2
    go_ret2
    exact ⟨rfl, rfl⟩
  · by_cases h2 : 63 < lo
    · clear h
      go_enter Tryd.func45, Tryd.ntmps45
      go_wp2
      go_ret2
      exact ⟨rfl, rfl⟩
    · by_cases h3 : w < 1
      · clear h
        go_enter Tryd.func45, Tryd.ntmps45
        go_wp2
        go_ret2
        exact ⟨rfl, rfl⟩
      · have h4 : 64 - lo < w := by
          have : ¬ w ≤ 64 - lo := by
            intro h5
            simp [show 0 ≤ lo by omega, show lo ≤ 63 by omega, show 1 ≤ w by omega, h5] at h
          omega
        have h5 : -1 ≤ lo := by omega
        have h6 : lo ≤ 63 := by omega
        clear h hlo
        go_enter Tryd.func45, Tryd.ntmps45
        go_wp2
        go_ret2
        exact ⟨rfl, rfl⟩
theorem mask_ok (lo w : Nat) (W : World) (h1 : lo ≤ 63) (h2 : 1 ≤ w) (h3 : w ≤ 64 - lo) :
    Calls Tryd.prog 45 #[.int .i64 lo, .int .i64 w] W fun e w' => e = .returned (.tuple #[.int .u64 (uv (Wire.mask w)), .bool true]) ∧ W = w' := by
  have h4 : ¬ (64 : Int) - (lo : Int) < (w : Int) := by omega
  have h5 : (w : Int) ≤ 64 := by omega
  go_enter Tryd.func45, Tryd.ntmps45
  go_wp2
  go_ret2
  refine ⟨?_, rfl⟩
  rw [Wire.one_shl]; rfl
namespace Wire
def fieldE (lo w : Int) : Int := if okField lo w then 0 else 2
def fieldV (v : BitVec 64) (lo w : Int) : BitVec 64 := if okField lo w then field v lo.toNat w.toNat else 0#64
def insE (lo w : Int) (x : BitVec 64) : Int := if okField lo w then if x >>> w.toNat = 0#64 then 0 else 3 else 2
def insV (v : BitVec 64) (lo w : Int) (x : BitVec 64) : BitVec 64 := if insE lo w x = 0 then ins v lo.toNat w.toNat x else 0#64
theorem okField_nat {lo w : Int} (h : okField lo w = true) : ∃ a b : Nat, lo = a ∧ w = b ∧ a ≤ 63 ∧ 1 ≤ b ∧ b ≤ 64 - a := by
  unfold okField at h
  simp only [Bool.and_eq_true, decide_eq_true_eq] at h
  exact ⟨lo.toNat, w.toNat, by omega, by omega, by omega, by omega, by omega⟩
end Wire
theorem Field_at (v : BitVec 64) (lo w : Int) (x : BitVec 64) (e : Int) (W : World) (hlo : -9223372036854775808 ≤ lo ∧ lo ≤ 9223372036854775807) (hx : Wire.fieldV v lo w = x) (he : Wire.fieldE lo w = e) :
    Calls Tryd.prog 17 #[.int .u64 (uv v), .int .i64 lo, .int .i64 w] W fun r w' => r = .returned (.tuple #[.int .u64 (uv x), .int .i64 e]) ∧ W = w' := by
  cases h : Wire.okField lo w
  · obtain rfl : e = 2 := by rw [← he]; unfold Wire.fieldE; rw [h]; rfl
    obtain rfl : x = 0#64 := by rw [← hx]; unfold Wire.fieldV; rw [h]; rfl
    have H := Lib.hid h; have HLO := Lib.hid hlo; clear hx he h hlo
    go_enter Tryd.func17, Tryd.ntmps17
    go_wp2_with (go_at_call 45; refine (mask_no _ _ _ H.out (.inr trivial) HLO.out).mono ?_; rintro r w' ⟨rfl, rfl⟩)
    go_ret2
    exact ⟨rfl, rfl⟩
  · obtain ⟨a, b, rfl, rfl, h1, h2, h3⟩ := Wire.okField_nat h
    obtain rfl : e = 0 := by rw [← he]; unfold Wire.fieldE; rw [h]; rfl
    have hx' : Wire.field v a b = x := by rw [← hx]; unfold Wire.fieldV; rw [h]; simp
    have HX := Lib.hid hx'; clear hx he h hx' hlo
    go_enter Tryd.func17, Tryd.ntmps17
    go_wp2_with (go_at_call 45; refine (mask_ok _ _ _ h1 h2 h3).mono ?_; rintro r w' ⟨rfl, rfl⟩)
    go_ret2
    refine ⟨?_, rfl⟩
    rw [← HX.out]; rfl
theorem Insert_at (v : BitVec 64) (lo w : Int) (x z : BitVec 64) (e : Int) (W : World) (hlo : -9223372036854775808 ≤ lo ∧ lo ≤ 9223372036854775807) (hz : Wire.insV v lo w x = z) (he : Wire.insE lo w x = e) :
    Calls Tryd.prog 19 #[.int .u64 (uv v), .int .i64 lo, .int .i64 w, .int .u64 (uv x)] W fun r w' => r = .returned (.tuple #[.int .u64 (uv z), .int .i64 e]) ∧ Below W.heap.size W w' := by
  cases h : Wire.okField lo w
  · have he2 : Wire.insE lo w x = 2 := by unfold Wire.insE; rw [h]; rfl
    obtain rfl : e = 2 := he.symm.trans he2
    obtain rfl : z = 0#64 := by rw [← hz]; unfold Wire.insV; rw [he2]; rfl
    have H := Lib.hid h; have HLO := Lib.hid hlo; clear hz he he2 h hlo
    go_enter Tryd.func19, Tryd.ntmps19
    go_wp2_with (go_at_call 45; refine (mask_no _ _ _ H.out (.inr trivial) HLO.out).mono ?_; rintro r w' ⟨rfl, rfl⟩)
    go_ret2
    exact ⟨rfl, Below.refl _ _⟩
  · obtain ⟨a, b, rfl, rfl, h1, h2, h3⟩ := Wire.okField_nat h
    by_cases hs : x >>> b = 0#64
    · have he2 : Wire.insE a b x = 0 := by unfold Wire.insE; rw [h]; simp [hs]
      obtain rfl : e = 0 := he.symm.trans he2
      have hz' : Wire.ins v a b x = z := by rw [← hz]; unfold Wire.insV; rw [he2]; simp
      have hm : x &&& ~~~ Wire.mask b = 0#64 := (Wire.high_iff x b (by omega)).2 hs
      have hg : decide (0 < uv (x &&& ~~~ Wire.mask b)) = false := by rw [hm]; decide
      have HZ := Lib.hid hz'; clear hz he he2 h hz' hlo hm hs
      go_enter Tryd.func19, Tryd.ntmps19
      go_upto_region 6 with (go_at_call 45; refine (mask_ok _ _ _ h1 h2 h3).mono ?_; rintro r w' ⟨rfl, rfl⟩)
      go_quiet (fail)
      go_wp2
      go_ret2
      refine ⟨?_, gr_drewN _ _⟩
      rw [← HZ.out]; rfl
    · have he2 : Wire.insE a b x = 3 := by unfold Wire.insE; rw [h]; simp [hs]
      obtain rfl : e = 3 := he.symm.trans he2
      obtain rfl : z = 0#64 := by rw [← hz]; unfold Wire.insV; rw [he2]; rfl
      have hm : ¬ x &&& ~~~ Wire.mask b = 0#64 := fun hh => hs ((Wire.high_iff x b (by omega)).1 hh)
      have hg : decide (0 < uv (x &&& ~~~ Wire.mask b)) = true := decide_eq_true (uv_pos _ hm)
      clear hz he he2 h hlo hm hs
      go_enter Tryd.func19, Tryd.ntmps19
      go_wp2_with (go_at_call 45; refine (mask_ok _ _ _ h1 h2 h3).mono ?_; rintro r w' ⟨rfl, rfl⟩)
      go_ret2
      exact ⟨rfl, Below.refl _ _⟩
end Go.Proofs.YteicmbapipnbjaaDoor
