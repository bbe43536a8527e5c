/- The walks of Go's slices at bytes: Clone, Reverse, Grow (of nothing), Concat. -/
import Derived.Test.YtabfmhlhdebcpaaGreatDoorBase
namespace Go.Proofs.YtabfmhlhdebcpaaGreatDoor
open Go.RowKit
set_option linter.unusedVariables false
set_option linter.unusedSimpArgs false

theorem grown_tr {a b c : World} {row : Option Nat} (h : a.grownBy b row) (k : b.grownBy c row) : a.grownBy c row :=
  ⟨k.os.trans h.os, k.tape.trans h.tape, k.output.trans h.output, Nat.le_trans h.size k.size, fun i hi hn => (k.block i (Nat.lt_of_lt_of_le hi h.size) hn).trans (h.block i hi hn)⟩
theorem grown_drew (w : World) (row : Option Nat) : w.grownBy w.drew row := ⟨rfl, rfl, rfl, Nat.le_refl _, fun _ _ _ => rfl⟩
theorem own_nil_len {w : World} {base : Nat} {e : TypeId} {n : Nat} {xs : List Value} {a : Option Addr} {c : Nat} (h : w.ownsRow base e 1 (.slice a n c) n xs) (ha : a = none) : n = 0 := by
  obtain ⟨h1, h2⟩ := h
  rcases h2 with ⟨e1, e2⟩ | ⟨g, cap, cur, hv, _⟩
  · exact e2
  · subst ha; simp at hv
theorem Clone_any (v : Value) (l : List (BitVec 8)) (w : World) (hv : BytesV w v l) (hs : l.length ≤ 140737488355328) :
    Calls Tryz.prog 42 #[v] w fun e w' => ∃ u, e = .returned u ∧ w'.ownsRow w.heap.size 5 1 u l.length (by8 l) ∧ Below w.heap.size w w' := by
  obtain ⟨a, c, rfl, h0, h1, h2, h3⟩ := hv
  cases a with
  | none =>
    have hc := h0 rfl
    have hl : l = [] := List.length_eq_zero_iff.1 (by omega)
    subst hl
    have hq := fun (w : World) n c => Lib.run_eql_slice_nil (P := Tryz.prog) w 42 5 none n c 0 0 Tryz.underlying42
    go_enter Tryz.func42, Tryz.ntmps42
    go_wp2
    go_ret
    exact ⟨_, rfl, World.ownsRow_nil _ _ _ _, Below.refl _ _⟩
  | some ad =>
    have hq := fun (w : World) n c => Lib.run_eql_slice_nil (P := Tryz.prog) w 42 5 (some ad) n c 0 0 Tryz.underlying42
    go_enter Tryz.func42, Tryz.ntmps42
    go_wp2_with (at_builtin; refine app_law bytesOk rfl _ _ rfl w.heap.size (.slice (some ⟨w.heap.size, 0, none⟩) 0 0) 0 [] rfl (World.ownsRow_made w #[] 0 (Nat.le_refl _) (by decide) rfl) (some ad) l.length c (by8 l) rfl h0 h1 (h3.below (gr_alloc _ _)) (by simp) (by8_one l) (by omega) (by omega) (by simp) ?_; intro v' w1 hown hgrow _; simp only [Nat.zero_add, List.nil_append] at hown)
    go_ret
    exact ⟨_, rfl, hown, (gr_alloc w _).grown hgrow (by simp) (by intro k hk; simp [Value.ownBlock] at hk; omega)⟩
end Go.Proofs.YtabfmhlhdebcpaaGreatDoor
