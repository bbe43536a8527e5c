/- The walks of capsuleref01: valid, Field, Insert. -/
import Derived.Test.YteicmbapipnbjaaDoorRef01B
namespace Go.Proofs.YteicmbapipnbjaaDoor
open Go.RowKit
set_option linter.unusedVariables false
set_option linter.unusedSimpArgs false
theorem valid01_any (lo w : Int) (b : Bool) (W : World) (h : Wire.okField lo w = b) (hlo : -9223372036854775808 ≤ lo ∧ lo ≤ 9223372036854775807) :
    Calls Tryd.prog 46 #[.int .i64 lo, .int .i64 w] W fun e w' => e = .returned (.bool b) ∧ W = w' := by
  subst h
  unfold Wire.okField
  by_cases h1 : 0 ≤ lo
  · by_cases h2 : 1 ≤ w
    · by_cases h3 : lo < 64
      · have e3 : decide (lo ≤ 63) = true := decide_eq_true (by omega)
        rw [e3, decide_eq_true h1, decide_eq_true h2]
        clear hlo e3
        by_cases h4 : w ≤ 64 - lo
        · rw [decide_eq_true h4]
          go_enter Tryd.func46, Tryd.ntmps46
          go_wp2
          go_ret
          exact ⟨rfl, rfl⟩
        · rw [decide_eq_false h4]
          go_enter Tryd.func46, Tryd.ntmps46
          go_wp2
          go_ret
          exact ⟨rfl, rfl⟩
      · have e3 : decide (lo ≤ 63) = false := decide_eq_false (by omega)
        rw [e3]
        simp only [Bool.and_false, Bool.false_and]
        clear hlo e3
        go_enter Tryd.func46, Tryd.ntmps46
        go_wp2
        go_ret
        exact ⟨rfl, rfl⟩
    · rw [decide_eq_false h2]
      simp only [Bool.and_false, Bool.false_and]
      clear hlo
      go_enter Tryd.func46, Tryd.ntmps46
      go_wp2
      go_ret
      exact ⟨rfl, rfl⟩
  · rw [decide_eq_false h1]
    simp only [Bool.and_false, Bool.false_and]
    clear hlo
    go_enter Tryd.func46, Tryd.ntmps46
    go_wp2
    go_ret
    exact ⟨rfl, rfl⟩
theorem rField_at (v : BitVec 64) (lo w : Int) (x : BitVec 64) (e : Int) (W : World) (hlo : -9223372036854775808 ≤ lo ∧ lo ≤ 9223372036854775807) (hx : Wire.fieldV v lo w = x) (he : Wire.fieldE lo w = e) :
    Calls Tryd.prog 18 #[.int .u64 (uv v), .int .i64 lo, .int .i64 w] W fun r w' => r = .returned (.tuple #[.int .u64 (uv x), .int .i64 e]) ∧ W = w' := by
  cases h : Wire.okField lo w
  · obtain rfl : e = 2 := by rw [← he]; unfold Wire.fieldE; rw [h]; rfl
    obtain rfl : x = 0#64 := by rw [← hx]; unfold Wire.fieldV; rw [h]; rfl
    have H := Lib.hid h; have HLO := Lib.hid hlo; clear hx he h hlo
    go_enter Tryd.func18, Tryd.ntmps18
    go_wp2_with (go_at_call 46; refine (valid01_any _ _ _ _ H.out HLO.out).mono ?_; rintro r w' ⟨rfl, rfl⟩)
    go_ret2
    exact ⟨rfl, rfl⟩
  · obtain ⟨a, b, rfl, rfl, h1, h2, h3⟩ := Wire.okField_nat h
    obtain rfl : e = 0 := by rw [← he]; unfold Wire.fieldE; rw [h]; rfl
    have hx' : Wire.rfield v a b = x := by rw [Wire.rfield_eq v a b (by omega), ← hx]; unfold Wire.fieldV; rw [h]; simp
    have HX := Lib.hid hx'; have H := Lib.hid h; have HLO := Lib.hid hlo; clear hx he h hx' hlo
    go_enter Tryd.func18, Tryd.ntmps18
    go_wp2_with (go_at_call 46; refine (valid01_any _ _ _ _ H.out HLO.out).mono ?_; rintro r w' ⟨rfl, rfl⟩)
    go_loop [8, 9] (fun s i => ∃ k : Nat, k ≤ b ∧ i = .int .i64 k ∧ s = .int .u64 (uv (Wire.rfield v a k))) (fun _ i => b - (intOf i).toNat)
    case atStart => exact ⟨0, by omega, rfl, rfl⟩
    case round =>
      obtain ⟨k, hk, rfl, rfl⟩ := hrel
      have HS := Lib.hid (show Wire.rfield v a (k + 1) = _ from rfl)
      by_cases hlt : k < b
      · go_wp2
        go_round
        case rel => exact ⟨k + 1, by omega, by go_num, by rfl⟩
        case measure => simp [intOf]; omega
      · obtain rfl : k = b := by omega
        go_wp2
        go_ret2
        exact ⟨by rw [← HX.out]; rfl, rfl⟩
theorem rInsert_at (v : BitVec 64) (lo w : Int) (x z : BitVec 64) (e : Int) (W : World) (hlo : -9223372036854775808 ≤ lo ∧ lo ≤ 9223372036854775807) (hz : Wire.insV v lo w x = z) (he : Wire.insE lo w x = e) :
    Calls Tryd.prog 20 #[.int .u64 (uv v), .int .i64 lo, .int .i64 w, .int .u64 (uv x)] W fun r w' => r = .returned (.tuple #[.int .u64 (uv z), .int .i64 e]) ∧ W = w' := by
  cases h : Wire.okField lo w
  · have he2 : Wire.insE lo w x = 2 := by unfold Wire.insE; rw [h]; rfl
    obtain rfl : e = 2 := he.symm.trans he2
    obtain rfl : z = 0#64 := by rw [← hz]; unfold Wire.insV; rw [he2]; rfl
    have H := Lib.hid h; have HLO := Lib.hid hlo; clear hz he he2 h hlo
    go_enter Tryd.func20, Tryd.ntmps20
    go_wp2_with (go_at_call 46; refine (valid01_any _ _ _ _ H.out HLO.out).mono ?_; rintro r w' ⟨rfl, rfl⟩)
    go_ret2
    exact ⟨rfl, rfl⟩
  · obtain ⟨a, b, rfl, rfl, h1, h2, h3⟩ := Wire.okField_nat h
    by_cases hs : x >>> b = 0#64
    · have he2 : Wire.insE a b x = 0 := by unfold Wire.insE; rw [h]; simp [hs]
      obtain rfl : e = 0 := he.symm.trans he2
      have hz' : Wire.rins v x a b 64 = z := by rw [Wire.rins_eq v x a b (by omega) hs, ← hz]; unfold Wire.insV; rw [he2]; simp
      have HZ := Lib.hid hz'; have H := Lib.hid h; have HLO := Lib.hid hlo
      have hg : decide (0 < uv (x >>> b)) = false := by rw [hs]; decide
      clear hz he he2 h hz' hlo hs
      go_enter Tryd.func20, Tryd.ntmps20
      by_cases hb64 : b < 64
      all_goals
        go_wp2_with (go_at_call 46; refine (valid01_any _ _ _ _ H.out HLO.out).mono ?_; rintro r w' ⟨rfl, rfl⟩)
        go_loop [10, 11, 12] (fun s i _ => ∃ k : Nat, k ≤ 64 ∧ i = .int .i64 k ∧ s = .int .u64 (uv (Wire.rins v x a b k))) (fun _ i _ => 64 - (intOf i).toNat)
        case atStart => exact ⟨0, by omega, rfl, rfl⟩
        case round =>
          obtain ⟨k, hk, rfl, rfl⟩ := hrel
          by_cases hlt : k < 64
          · by_cases hin : a ≤ k ∧ k < a + b
            · obtain ⟨q1, q2⟩ := hin
              obtain ⟨j, rfl⟩ : ∃ j, k = a + j := ⟨k - a, by omega⟩
              have HS := Lib.hid (show Wire.rins v x a b (a + j + 1) = Wire.rins v x a b (a + j) ||| (x >>> j &&& 1#64) <<< (a + j) by
                show (Wire.rins v x a b (a + j) ||| (if a ≤ a + j ∧ a + j < a + b then x >>> (a + j - a) &&& 1#64 else v >>> (a + j) &&& 1#64) <<< (a + j)) = _
                rw [if_pos ⟨q1, q2⟩, Nat.add_sub_cancel_left])
              have q3 : (a : Int) ≤ ((a + j : Nat) : Int) := by omega
              go_wp2
              go_round
              case rel => exact ⟨a + j + 1, by omega, by go_num, by rw [HS.out]⟩
              case measure => simp [intOf]; omega
            · have HS := Lib.hid (show Wire.rins v x a b (k + 1) = Wire.rins v x a b k ||| (v >>> k &&& 1#64) <<< k by
                show (Wire.rins v x a b k ||| (if a ≤ k ∧ k < a + b then x >>> (k - a) &&& 1#64 else v >>> k &&& 1#64) <<< k) = _
                rw [if_neg hin])
              by_cases q1 : a ≤ k
              · have q3 : ¬ (k : Int) < (a : Int) + (b : Int) := by omega
                have q4 : (a : Int) ≤ (k : Int) := by omega
                clear hin
                go_wp2
                all_goals
                  go_round
                  case rel => exact ⟨k + 1, by omega, by go_num, by rw [HS.out]⟩
                  case measure => simp [intOf]; omega
              · have q4 : ¬ (a : Int) ≤ (k : Int) := by omega
                clear hin
                go_wp2
                all_goals
                  go_round
                  case rel => exact ⟨k + 1, by omega, by go_num, by rw [HS.out]⟩
                  case measure => simp [intOf]; omega
          · obtain rfl : k = 64 := by omega
            go_wp2
            go_ret2
            exact ⟨by rw [← HZ.out]; rfl, rfl⟩
    · have he2 : Wire.insE a b x = 3 := by unfold Wire.insE; rw [h]; simp [hs]
      obtain rfl : e = 3 := he.symm.trans he2
      obtain rfl : z = 0#64 := by rw [← hz]; unfold Wire.insV; rw [he2]; rfl
      have hb64 : (b : Int) < 64 := by
        by_cases hb : b < 64
        · omega
        · exact absurd (BitVec.ushiftRight_eq_zero (by omega)) hs
      have hg : decide (0 < uv (x >>> b)) = true := decide_eq_true (uv_pos _ hs)
      have H := Lib.hid h; have HLO := Lib.hid hlo
      clear hz he he2 h hlo hs
      go_enter Tryd.func20, Tryd.ntmps20
      go_wp2_with (go_at_call 46; refine (valid01_any _ _ _ _ H.out HLO.out).mono ?_; rintro r w' ⟨rfl, rfl⟩)
      go_ret2
      exact ⟨rfl, rfl⟩
end Go.Proofs.YteicmbapipnbjaaDoor
