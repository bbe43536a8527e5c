/- The walks of the reference's helpers: Own (a copy of bytes) and Same (equality of bytes). -/
import Derived.Test.YtabfmhlhdebcpaaGreatDoorBase
namespace Go.Proofs.YtabfmhlhdebcpaaGreatDoor
open Go.RowKit
set_option linter.unusedVariables false
set_option linter.unusedSimpArgs false

theorem Own_any (v : Value) (l : List (BitVec 8)) (w : World) (hv : BytesV w v l) (hs : l.length ≤ 140737488355328) :
    Calls Tryz.prog 16 #[v] w fun e w' => ∃ u, e = .returned u ∧ w'.ownsRow w.heap.size 5 1 u l.length (by8 l) ∧ Below w.heap.size w w' := by
  obtain ⟨a, c, rfl, h0, h1, h2, h3⟩ := hv
  go_enter Tryz.func16, Tryz.ntmps16
  go_wp2_with (at_builtin; refine app_law bytesOk rfl _ _ rfl w.heap.size (.slice none 0 0) 0 [] rfl (World.ownsRow_nil _ _ _ _) a l.length c (by8 l) rfl h0 h1 h3 (by simp) (by8_one l) (by omega) (by omega) (Nat.le_refl _) ?_; intro v' w1 hown hgrow _; simp only [Nat.zero_add, List.nil_append] at hown)
  go_ret
  exact ⟨_, rfl, hown, (Below.refl _ _).grown hgrow (Nat.le_refl _) (by intro k hk; simp [Value.ownBlock] at hk)⟩

theorem Same_any (v u : Value) (l m : List (BitVec 8)) (w : World) (hv : BytesV w v l) (hu : BytesV w u m) :
    Calls Tryz.prog 19 #[v, u] w fun e w' => e = .returned (.bool (l == m)) ∧ w = w' := by
  have h1 := run_string hv
  have h2 := run_string hu
  have h3 := strOf_beq l m
  obtain ⟨a, c, rfl, _, _, _, _⟩ := hv
  obtain ⟨a', c', rfl, _, _, _, _⟩ := hu
  go_enter Tryz.func19, Tryz.ntmps19
  go_wp2
  go_ret
  exact ⟨rfl, rfl⟩
end Go.Proofs.YtabfmhlhdebcpaaGreatDoor
