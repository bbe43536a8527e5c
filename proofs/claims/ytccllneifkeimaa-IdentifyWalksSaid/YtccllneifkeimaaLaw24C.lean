/- The law IdentifyLists: the walk. -/
import Derived.Test.YtccllneifkeimaaLaw24B
import Derived.Test.YtccllneifkeimaaRef24D
namespace Go.Proofs.Ytccllneifkeimaa
open Go.RowKit Idn Rise
set_option linter.unusedVariables false
set_option linter.unusedSimpArgs false
theorem Act_at (v : Value) (l : List (BitVec 32)) (a : BitVec 32) (w : World) (hv : SliceV w (fun y : BitVec 32 => [Value.int .u32 (uv y)]) v l) (hl : l.length ≤ 1000000) :
    ∃ (E : Int) (B : List (BitVec 8)), Calls Try.prog 15 #[v, .int .u32 (uv a)] w (fun e w' => ∃ u, e = .returned (.tuple #[u, .int .i64 E]) ∧ BytesV w' u B ∧ Below w.heap.size w w') ∧
      ∀ w', SliceV w' (fun y : BitVec 32 => [Value.int .u32 (uv y)]) v l → Calls Try.prog 16 #[v, .int .u32 (uv a)] w' (fun e w2 => ∃ u, e = .returned (.tuple #[u, .int .i64 E]) ∧ BytesV w2 u B ∧ Below w'.heap.size w' w2) := by
  by_cases h : OkL l
  · refine ⟨0, actB l a, (Act_ok v l a w hv hl h).mono ?_, fun w' hv' => (rAct_any v l a w' hv' hl).mono ?_⟩
    · rintro e w' ⟨g, rfl, h1, h2⟩; exact ⟨_, rfl, h1.bytes, h2⟩
    · rintro e w2 ⟨⟨_, g, rfl, h1⟩ | ⟨h1, _⟩, h2⟩
      · exact ⟨_, rfl, h1.bytes, h2⟩
      · exact absurd h h1
  · refine ⟨2, [], (Act_no v l a w hv hl h).mono ?_, fun w' hv' => (rAct_any v l a w' hv' hl).mono ?_⟩
    · rintro e w' ⟨rfl, h2⟩; exact ⟨_, rfl, BytesV.nil _, h2⟩
    · rintro e w2 ⟨⟨h1, _⟩ | ⟨_, rfl⟩, h2⟩
      · exact absurd h1 h
      · exact ⟨_, rfl, BytesV.nil _, h2⟩
set_option maxHeartbeats 3200000 in
set_option maxRecDepth 100000 in
theorem lawLists (v : Value) (l : List (BitVec 32)) (a : BitVec 32) (w : World) (hv : SliceV w (fun y : BitVec 32 => [Value.int .u32 (uv y)]) v l) :
    Calls Try.prog 4 #[v, .int .u32 (uv a)] w fun e w' => e = .returned (.bool true) ∧ Below w.heap.size w w' := by
  have V := Lib.hid hv
  by_cases hl : l.length ≤ 1500
  · obtain ⟨E, B, h1, h2⟩ := Act_at v l a w hv (by omega)
    have H1 := Lib.hid h1; have H2 := Lib.hid h2
    obtain ⟨av, c, rfl, -, hlc, hc, -⟩ := id hv
    have hm : l.length ≤ 9223372036854775807 := by omega
    have d1 : decide ((1500 : Int) < (l.length : Int)) = false := decide_eq_false (by omega)
    have d2 : decide (1500 < l.length) = false := decide_eq_false (by omega)
    clear hv h1 h2 hlc hc
    go_enter Try.func4, Try.ntmps4
    go_wp2_with (first
      | (go_at_call 15; go_loud (refine H1.out.mono ?_; rintro r w1 ⟨u, rfl, hu, hw⟩; have A := Lib.hid hu; have D := Lib.hid hw; have V1 := Lib.hid (V.out.below hw); clear hw hu))
      | (go_at_call 16; go_loud (refine (H2.out _ V1.out).mono ?_; rintro r w2 ⟨u2, rfl, hu, hw⟩; replace A := Lib.hid (A.out.below hw); have A2 := Lib.hid hu; replace D := Lib.hid (gr_tr D.out hw); clear hw hu))
      | (go_at_call 14; go_loud (refine (Same_any _ _ _ _ _ A.out A2.out).mono ?_; rintro r w4 ⟨rfl, hw4⟩; subst hw4; rw [show (B == B) = true from beq_self_eq_true _]))
      | (go_at_call 11; go_loud (refine (known_any _).mono ?_; rintro r w3 ⟨rfl, hw⟩; replace D := Lib.hid (gr_tr D.out hw); clear hw)))
    go_ret
    exact ⟨rfl, D.out⟩
  · obtain ⟨av, c, rfl, -, hlc, hc, -⟩ := id hv
    have hm : l.length ≤ 9223372036854775807 := by omega
    have d1 : decide ((1500 : Int) < (l.length : Int)) = true := decide_eq_true (by omega)
    have d2 : decide (1500 < l.length) = true := decide_eq_true (by omega)
    clear hv hlc hc hl
    go_enter Try.func4, Try.ntmps4
    go_wp2_with (go_at_call 11; go_loud (refine (known_any _).mono ?_; rintro r w1 ⟨rfl, hw⟩; have D := Lib.hid hw; clear hw))
    go_ret
    exact ⟨rfl, D.out⟩
end Go.Proofs.Ytccllneifkeimaa
