/- The walks of package wire: Put and Get at every input; mask, Field, Insert. -/
import Derived.Test.YtabfmhlhdebcpaaGreatDoorWireA
import Derived.Test.YtabfmhlhdebcpaaGreatDoorWireMath2
import Derived.Test.YtabfmhlhdebcpaaGreatDoorChg
namespace Go.Proofs.YtabfmhlhdebcpaaGreatDoor
open Go.RowKit
set_option linter.unusedVariables false
set_option linter.unusedSimpArgs false
namespace Wire
def putE (v : BitVec 64) (n : Int) : Int := if n < 1 ∨ 8 < n then 2 else if n < 8 ∧ v >>> (8 * n.toNat) ≠ 0#64 then 3 else 0
def putB (v : BitVec 64) (n : Int) : List (BitVec 8) := if putE v n = 0 then le v n.toNat else []
theorem putE_ok (v : BitVec 64) (n : Nat) (h1 : 1 ≤ n) (h2 : n ≤ 8) (h : n < 8 → v >>> (8 * n) = 0#64) : putE v n = 0 := by
  unfold putE
  rw [if_neg (by omega), if_neg]
  rintro ⟨h3, h4⟩
  exact h4 (by simpa using h (by omega))
theorem putE_cases (v : BitVec 64) (n : Int) : (putE v n = 2 ∧ (n < 1 ∨ (1 ≤ n ∧ 8 < n))) ∨ (putE v n = 3 ∧ ∃ k : Nat, n = k ∧ 1 ≤ k ∧ k < 8 ∧ v >>> (8 * k) ≠ 0#64) ∨ (putE v n = 0 ∧ ∃ k : Nat, n = k ∧ 1 ≤ k ∧ k ≤ 8 ∧ (k < 8 → v >>> (8 * k) = 0#64)) := by
  unfold putE
  by_cases h1 : n < 1 ∨ 8 < n
  · exact .inl ⟨if_pos h1, by omega⟩
  · rw [if_neg h1]
    obtain ⟨k, rfl⟩ := Int.eq_ofNat_of_zero_le (show 0 ≤ n by omega)
    by_cases h2 : (k : Int) < 8 ∧ v >>> (8 * (k : Int).toNat) ≠ 0#64
    · exact .inr (.inl ⟨if_pos h2, k, rfl, by omega, by omega, by simpa using h2.2⟩)
    · refine .inr (.inr ⟨if_neg h2, k, rfl, by omega, by omega, fun h => ?_⟩)
      by_cases e : v >>> (8 * k) = 0#64
      · exact e
      · exact absurd ⟨by omega, by simpa using e⟩ h2
theorem putB_ok (v : BitVec 64) (k : Nat) (h : putE v k = 0) : putB v k = le v k := by unfold putB; rw [if_pos h]; simp
theorem putB_no (v : BitVec 64) (n : Int) (h : putE v n ≠ 0) : putB v n = [] := by unfold putB; rw [if_neg h]
def getE (l : List (BitVec 8)) : Int := if l.length < 1 ∨ 8 < l.length then 2 else 0
def getV (l : List (BitVec 8)) : BitVec 64 := if getE l = 0 then get l else 0#64
end Wire
theorem Put_any (v : BitVec 64) (n : Int) (w : World) :
    Calls Tryz.prog 59 #[.int .u64 (uv v), .int .i64 n] w fun e w' => ∃ u, e = .returned (.tuple #[u, .int .i64 (Wire.putE v n)]) ∧ w'.ownsRow w.heap.size 5 1 u (Wire.putB v n).length (by8 (Wire.putB v n)) ∧ Below w.heap.size w w' := by
  rcases Wire.putE_cases v n with ⟨h, h1⟩ | ⟨h, k, rfl, h1, h2, h3⟩ | ⟨h, k, rfl, h1, h2, h3⟩
  · rw [h, Wire.putB_no v n (by omega)]
    exact (Put_arg v n w h1).mono fun e w' ⟨he, hw⟩ => ⟨_, he, by subst hw; exact World.ownsRow_nil _ _ _ _, by subst hw; exact Below.refl _ _⟩
  · rw [h, Wire.putB_no v k (by omega)]
    exact (Put_range v k w h1 h2 h3).mono fun e w' ⟨he, hw⟩ => ⟨_, he, by subst hw; exact World.ownsRow_nil _ _ _ _, by subst hw; exact Below.refl _ _⟩
  · rw [h, Wire.putB_ok v k h, Wire.le_len]
    exact (Put_ok v k w h1 h2 h3).mono fun e w' ⟨g, he, ho, hb⟩ => ⟨_, he, ho, hb⟩
theorem Put_at (v : BitVec 64) (n : Int) (e : Int) (l : List (BitVec 8)) (w : World) (he : Wire.putE v n = e) (hl : Wire.putB v n = l) :
    Calls Tryz.prog 59 #[.int .u64 (uv v), .int .i64 n] w fun x w' => ∃ u, x = .returned (.tuple #[u, .int .i64 e]) ∧ w'.ownsRow w.heap.size 5 1 u l.length (by8 l) ∧ Below w.heap.size w w' := by
  subst he hl; exact Put_any v n w
theorem Get_any (u : Value) (l : List (BitVec 8)) (w : World) (hv : BytesV w u l) :
    Calls Tryz.prog 127 #[u] w fun e w' => e = .returned (.tuple #[.int .u64 (uv (Wire.getV l)), .int .i64 (Wire.getE l)]) ∧ w = w' := by
  unfold Wire.getV Wire.getE
  by_cases h : l.length < 1 ∨ 8 < l.length
  · rw [if_pos h]
    exact Get_arg u l w hv h
  · rw [if_neg h, if_pos rfl]
    exact Get_ok u l w hv (by omega) (by omega)
theorem Get_at (u : Value) (l : List (BitVec 8)) (x : BitVec 64) (n : Int) (w : World) (hv : BytesV w u l) (hx : Wire.getV l = x) (hn : Wire.getE l = n) :
    Calls Tryz.prog 127 #[u] w fun e w' => e = .returned (.tuple #[.int .u64 (uv x), .int .i64 n]) ∧ w = w' := by
  subst hx hn; exact Get_any u l w hv
end Go.Proofs.YtabfmhlhdebcpaaGreatDoor
