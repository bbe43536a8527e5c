/- The walks of a reader's Take, Skip, Left. -/
import Derived.Test.YtabfmhlhdebcpaaGreatDoorWireF
namespace Go.Proofs.YtabfmhlhdebcpaaGreatDoor
open Go.RowKit
set_option linter.unusedVariables false
set_option linter.unusedSimpArgs false
namespace Wire
def cutE (l : List (BitVec 8)) (k : Int) : Int := if k < 0 then 2 else if (l.length : Int) < k then 4 else 0
theorem cutE_ok {l : List (BitVec 8)} {k : Int} (h : cutE l k = 0) : ∃ j : Nat, k = j ∧ j ≤ l.length := by
  unfold cutE at h
  split at h
  · cases h
  · split at h
    · cases h
    · exact ⟨k.toNat, by omega, by omega⟩
end Wire
theorem take_no {d : Nat} (T : TypeId) (r : Nat) (v : Value) (l : List (BitVec 8)) (n : Nat) (k e : Int) (w : World) (h : RdAt w T r d v l n) (he : Wire.cutE l k = e) (h0 : e ≠ 0) :
    Calls Tryz.prog 113 #[.pointer (some ⟨r, 0, none⟩), .int .i64 k] w fun x w' => x = .returned (.tuple #[.slice none 0 0, .int .i64 e]) ∧ w = w' := by
  unfold Wire.cutE at he
  by_cases h1 : k < 0
  · rw [if_pos h1] at he; subst he; exact take_arg r k w h1
  · rw [if_neg h1] at he
    by_cases h2 : (l.length : Int) < k
    · rw [if_pos h2] at he; subst he; exact take_short T r v l n k w h h2
    · rw [if_neg h2] at he; exact absurd he.symm h0
theorem Take_no {d : Nat} (T : TypeId) (r : Nat) (v : Value) (l : List (BitVec 8)) (n : Nat) (k e : Int) (w : World) (h : RdAt w T r d v l n) (he : Wire.cutE l k = e) (h0 : e ≠ 0) :
    Calls Tryz.prog 98 #[.pointer (some ⟨r, 0, none⟩), .int .i64 k] w fun x w' => ∃ u, x = .returned (.tuple #[u, .int .i64 e]) ∧ BytesV w' u [] ∧ Below w.heap.size w w' := by
  have R := Lib.hid h; have HE := Lib.hid he; have H0 := Lib.hid h0; clear h he h0
  go_enter Tryz.func98, Tryz.ntmps98
  go_wp2_with (first
    | (go_at_call 112; refine (state_some r _).mono ?_; rintro x w' ⟨rfl, rfl⟩)
    | (go_at_call 113; go_loud (refine (take_no T r v l n k e _ R.out HE.out H0.out).mono ?_; rintro x w' ⟨rfl, rfl⟩))
    | (go_at_call 42; go_loud (refine (Clone_any _ [] _ (BytesV.nil _) (by simp)).mono ?_; rintro x w1 ⟨u, rfl, ho, hb⟩; have O := Lib.hid (BytesV.of_own (l := []) ho); have B := Lib.hid hb; clear ho hb)))
  go_ret2
  exact ⟨_, rfl, O.out, B.out⟩
theorem Take_ok {d : Nat} (T : TypeId) (r : Nat) (v : Value) (l : List (BitVec 8)) (n j : Nat) (w : World) (h : RdAt w T r d v l n) (hj : j ≤ l.length) (hl : l.length ≤ 140737488355328) :
    Calls Tryz.prog 98 #[.pointer (some ⟨r, 0, none⟩), .int .i64 j] w fun x w' => ∃ u, x = .returned (.tuple #[u, .int .i64 0]) ∧ w'.ownsRow w.heap.size 5 1 u j (by8 (l.take j)) ∧ (∃ v', RdAt w' T r d v' (l.drop j) (n + j)) ∧ Chg (fun b => b = r) w w' := by
  have R := Lib.hid h; have HJ := Lib.hid hj; have HL := Lib.hid hl; clear h hj hl
  go_enter Tryz.func98, Tryz.ntmps98
  go_wp2_with (first
    | (go_at_call 112; refine (state_some r _).mono ?_; rintro x w' ⟨rfl, rfl⟩)
    | (go_at_call 113; go_loud (refine (take_ok T r v l n j _ R.out HJ.out).mono ?_; rintro x w1 ⟨u, rfl, hu, ⟨v1, hr⟩, hc⟩; have U := Lib.hid hu; have R1 := Lib.hid hr; have C1 := Lib.hid hc; clear hu hr hc))
    | (go_at_call 42; go_loud (refine (Clone_any _ (l.take j) _ U.out (by have := HJ.out; have := HL.out; rw [List.length_take]; omega)).mono ?_; rintro x w2 ⟨u2, rfl, ho, hb⟩; have O := Lib.hid ho; have B := Lib.hid hb; clear ho hb)))
  go_ret2
  have hlen : (l.take j).length = j := by have := HJ.out; rw [List.length_take]; omega
  have ho := O.out
  rw [hlen] at ho
  exact ⟨_, rfl, own_base ho C1.out.size, ⟨v1, R1.out.below B.out⟩, C1.out.trans (Chg.of_below B.out)⟩
end Go.Proofs.YtabfmhlhdebcpaaGreatDoor
