/- Slices of words and the reference's SameWords. -/
import Derived.Test.YteicmbapipnbjaaDoorWireK
import Derived.Test.YteicmbapipnbjaaDoorRows2
namespace Go.Proofs.YteicmbapipnbjaaDoor
open Go.RowKit
set_option linter.unusedVariables false
set_option linter.unusedSimpArgs false
def WordsV (w : World) (v : Value) (l : List (BitVec 64)) : Prop :=
  ∃ a c, v = .slice a l.length c ∧ (a = none → c = 0) ∧ l.length ≤ c ∧ c ≤ 9223372036854775807 ∧ Row w a (wd l)
theorem WordsV.below {w w' : World} {v : Value} {l : List (BitVec 64)} (h : WordsV w v l) (hb : Below w.heap.size w w') : WordsV w' v l := by
  obtain ⟨a, c, e, h0, h1, h2, h3⟩ := h
  exact ⟨a, c, e, h0, h1, h2, h3.below hb⟩
theorem WordsV.nil (w : World) : WordsV w (.slice none 0 0) [] := ⟨none, 0, rfl, fun _ => rfl, by simp, by simp, .inl rfl⟩
theorem WordsV.of_own {w : World} {base : Nat} {e : TypeId} {v : Value} {l : List (BitVec 64)} (h : w.ownsRow base e 1 v l.length (wd l)) : WordsV w v l := by
  obtain ⟨h1, h2⟩ := h
  rcases h2 with ⟨e1, e2⟩ | ⟨g, cap, cur, hv, hg, hh, r1, r2, r3, r4⟩
  · have : l = [] := List.length_eq_zero_iff.1 e2
    subst this; subst e1; exact WordsV.nil w
  · subst hv
    exact ⟨_, cap, rfl, (by simp), r1, r2, Row.of_own ⟨h1, .inr ⟨g, cap, cur, rfl, hg, hh, r1, r2, r3, r4⟩⟩⟩
theorem wd_at (l : List (BitVec 64)) (k : Nat) (x : BitVec 64) (h : l[k]? = some x) : (wd l)[k]? = some (.int .u64 (uv x)) := by
  unfold wd; rw [List.getElem?_map, h]; rfl
theorem SameWords_eq (v u : Value) (l : List (BitVec 64)) (w : World) (hv : WordsV w v l) (hu : WordsV w u l) :
    Calls Tryd.prog 29 #[v, u] w fun e w' => e = .returned (.bool true) ∧ Below w.heap.size w w' := by
  obtain ⟨a, c, rfl, _, hlc, hc, hr⟩ := hv
  obtain ⟨a', c', rfl, _, hlc', hc', hr'⟩ := hu
  have R := Lib.hid hr; have R' := Lib.hid hr'
  clear hr hr'
  go_enter Tryd.func29, Tryd.ntmps29
  go_wp2
  go_loopw [5] (fun i wr => ∃ k : Nat, k ≤ l.length ∧ i = .int .i64 k ∧ Below w.heap.size w wr) (fun i _ => l.length - (intOf i).toNat)
  case atStart => exact ⟨0, by omega, rfl, Below.refl _ _⟩
  case round =>
    obtain ⟨k, hk, rfl, hb⟩ := hrel
    have B := Lib.hid hb; clear hb
    by_cases hlt : k < l.length
    · have hx := wd_at l k l[k] (List.getElem?_eq_getElem hlt)
      obtain ⟨b, o, rfl, hc1⟩ := (R.out.below B.out).at hx
      obtain ⟨b', o', rfl, hc2⟩ := (R'.out.below B.out).at hx
      obtain ⟨x, hxx⟩ : ∃ x, uv l[k] = x := ⟨_, rfl⟩
      rw [hxx] at hc1 hc2
      clear hx hxx
      go_wp2
      go_region
      all_goals (go_wp2; go_roundw)
      case rel => exact ⟨k + 1, by omega, by go_num, B.out.drew⟩
      case measure => simp [intOf]; omega
    · obtain rfl : k = l.length := by omega
      go_wp2
      go_ret
      exact ⟨rfl, B.out⟩
end Go.Proofs.YteicmbapipnbjaaDoor
