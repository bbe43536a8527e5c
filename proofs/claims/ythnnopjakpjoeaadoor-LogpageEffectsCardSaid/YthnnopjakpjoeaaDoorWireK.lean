/- The walks of a reader's Take, Skip, Left. -/
import Derived.Test.YthnnopjakpjoeaaDoorWireF
namespace Go.Proofs.YthnnopjakpjoeaaDoor
open Go.RowKit
set_option linter.unusedVariables false
set_option linter.unusedSimpArgs false
namespace Wire
def cutE (l : List (BitVec 8)) (k : Int) : Int := if k < 0 then 2 else if (l.length : Int) < k then 4 else 0
theorem cutE_ok {l : List (BitVec 8)} {k : Int} (h : cutE l k = 0) : ∃ j : Nat, k = j ∧ j ≤ l.length := by
  unfold cutE at h
  split at h
  · cases h
  · split at h
    · cases h
    · exact ⟨k.toNat, by omega, by omega⟩
end Wire
theorem take_no {d : Nat} (T : TypeId) (r : Nat) (v : Value) (l : List (BitVec 8)) (n : Nat) (k e : Int) (w : World) (h : RdAt w T r d v l n) (he : Wire.cutE l k = e) (h0 : e ≠ 0) :
    Calls Tryd.prog 152 #[.pointer (some ⟨r, 0, none⟩), .int .i64 k] w fun x w' => x = .returned (.tuple #[.slice none 0 0, .int .i64 e]) ∧ w = w' := by
  unfold Wire.cutE at he
  by_cases h1 : k < 0
  · rw [if_pos h1] at he; subst he; exact take_arg r k w h1
  · rw [if_neg h1] at he
    by_cases h2 : (l.length : Int) < k
    · rw [if_pos h2] at he; subst he; exact take_short T r v l n k w h h2
    · rw [if_neg h2] at he; exact absurd he.symm h0
theorem Skip_no {d : Nat} (T : TypeId) (r : Nat) (v : Value) (l : List (BitVec 8)) (n : Nat) (k e : Int) (w : World) (h : RdAt w T r d v l n) (he : Wire.cutE l k = e) (h0 : e ≠ 0) :
    Calls Tryd.prog 111 #[.pointer (some ⟨r, 0, none⟩), .int .i64 k] w fun x w' => x = .returned (.int .i64 e) ∧ w = w' := by
  have R := Lib.hid h; have HE := Lib.hid he; have H0 := Lib.hid h0; clear h he h0
  go_enter Tryd.func111, Tryd.ntmps111
  go_wp2_with (first
    | (go_at_call 151; refine (state_some r _).mono ?_; rintro x w' ⟨rfl, rfl⟩)
    | (go_at_call 152; go_loud (refine (take_no T r v l n k e _ R.out HE.out H0.out).mono ?_; rintro x w' ⟨rfl, rfl⟩)))
  go_ret
  exact ⟨rfl, rfl⟩
theorem Skip_ok {d : Nat} (T : TypeId) (r : Nat) (v : Value) (l : List (BitVec 8)) (n j : Nat) (w : World) (h : RdAt w T r d v l n) (hj : j ≤ l.length) :
    Calls Tryd.prog 111 #[.pointer (some ⟨r, 0, none⟩), .int .i64 j] w fun x w' => x = .returned (.int .i64 0) ∧ (∃ v', RdAt w' T r d v' (l.drop j) (n + j)) ∧ Chg (fun b => b = r) w w' := by
  have R := Lib.hid h; have HJ := Lib.hid hj; clear h hj
  go_enter Tryd.func111, Tryd.ntmps111
  go_wp2_with (first
    | (go_at_call 151; refine (state_some r _).mono ?_; rintro x w' ⟨rfl, rfl⟩)
    | (go_at_call 152; go_loud (refine (take_ok T r v l n j _ R.out HJ.out).mono ?_; rintro x w1 ⟨u, rfl, hu, ⟨v1, hr⟩, hc⟩; have R1 := Lib.hid hr; have C1 := Lib.hid hc; clear hu hr hc)))
  go_ret
  exact ⟨rfl, ⟨v1, R1.out⟩, C1.out⟩
end Go.Proofs.YthnnopjakpjoeaaDoor
