/- Descriptions of pages: the names of the kinds; the law's own helpers. -/
import Derived.Test.YteicmbapipnbjaaSpareN
import Derived.Outline
namespace Go.Proofs.Yteicmbapipnbjaa
open Go.RowKit
set_option linter.unusedVariables false
set_option linter.unusedSimpArgs false
theorem Name5_low (n : Int) (s : ByteArray) (w : World) (h0 : 0 ≤ n) (h3 : n ≤ 3) (hs : (#[⟨#[]⟩, ⟨#[100, 97, 116, 97]⟩, ⟨#[100, 101, 108, 116, 97]⟩, ⟨#[99, 104, 101, 99, 107, 112, 111, 105, 110, 116]⟩] : Array ByteArray)[n.toNat]? = some s) :
    Calls Try.prog 19 #[.int .u8 n] w fun e w' => e = .returned (.string s) ∧ Below w.heap.size w w' := by
  obtain rfl | rfl | rfl | rfl : n = 0 ∨ n = 1 ∨ n = 2 ∨ n = 3 := by omega
  all_goals
    obtain rfl := Option.some.inj hs
    clear hs h0 h3
    have hix : ∀ w', (Instr.index 74 (.agg #[.string ⟨#[]⟩, .string ⟨#[100, 97, 116, 97]⟩, .string ⟨#[100, 101, 108, 116, 97]⟩, .string ⟨#[99, 104, 101, 99, 107, 112, 111, 105, 110, 116]⟩]) (.int .u8 0)).run Try.prog w' = .ok (.string ⟨#[]⟩) w' := fun _ => by kernel_rfl
    have hiy : ∀ w', (Instr.index 74 (.agg #[.string ⟨#[]⟩, .string ⟨#[100, 97, 116, 97]⟩, .string ⟨#[100, 101, 108, 116, 97]⟩, .string ⟨#[99, 104, 101, 99, 107, 112, 111, 105, 110, 116]⟩]) (.int .u8 1)).run Try.prog w' = .ok (.string ⟨#[100, 97, 116, 97]⟩) w' := fun _ => by kernel_rfl
    have hiz : ∀ w', (Instr.index 74 (.agg #[.string ⟨#[]⟩, .string ⟨#[100, 97, 116, 97]⟩, .string ⟨#[100, 101, 108, 116, 97]⟩, .string ⟨#[99, 104, 101, 99, 107, 112, 111, 105, 110, 116]⟩]) (.int .u8 2)).run Try.prog w' = .ok (.string ⟨#[100, 101, 108, 116, 97]⟩) w' := fun _ => by kernel_rfl
    have hiq : ∀ w', (Instr.index 74 (.agg #[.string ⟨#[]⟩, .string ⟨#[100, 97, 116, 97]⟩, .string ⟨#[100, 101, 108, 116, 97]⟩, .string ⟨#[99, 104, 101, 99, 107, 112, 111, 105, 110, 116]⟩]) (.int .u8 3)).run Try.prog w' = .ok (.string ⟨#[99, 104, 101, 99, 107, 112, 111, 105, 110, 116]⟩) w' := fun _ => by kernel_rfl
    go_enter Try.func19, Try.ntmps19
    go_wp2_with (first
      | (go_at_call 39; with_reducible refine (names_any w).mono ?_; rintro r w1 ⟨rfl, hb⟩; have B1 := Lib.hid hb; clear hb)
      | (go_at_call 39; with_reducible refine (names_any _).mono ?_; rintro r w2 ⟨rfl, hb⟩; have B2 := Lib.hid hb; clear hb))
    go_ret
    exact ⟨rfl, gr_tr B1.out B2.out⟩
theorem Name5_high (n : Int) (w : World) (h3 : 4 ≤ n) (h255 : n ≤ 255) :
    Calls Try.prog 19 #[.int .u8 n] w fun e w' => e = .returned (.string ⟨#[]⟩) ∧ Below w.heap.size w w' := by
  go_enter Try.func19, Try.ntmps19
  go_wp2_with (go_at_call 39; with_reducible refine (names_any w).mono ?_; rintro r w1 ⟨rfl, hb⟩; have B1 := Lib.hid hb; clear hb)
  go_ret
  exact ⟨rfl, B1.out⟩
theorem rName5_in (n : Int) (s : ByteArray) (w : World) (h0 : 1 ≤ n) (h3 : n ≤ 3) (hs : (#[⟨#[]⟩, ⟨#[100, 97, 116, 97]⟩, ⟨#[100, 101, 108, 116, 97]⟩, ⟨#[99, 104, 101, 99, 107, 112, 111, 105, 110, 116]⟩] : Array ByteArray)[n.toNat]? = some s) :
    Calls Try.prog 20 #[.int .u8 n] w fun e w' => e = .returned (.string s) ∧ Below w.heap.size w w' := by
  obtain rfl | rfl | rfl : n = 1 ∨ n = 2 ∨ n = 3 := by omega
  all_goals
    obtain rfl := Option.some.inj hs
    clear hs h0 h3
    have n0 : nv 0#8 = 0 := rfl
    have n1 : nv 1#8 = 1 := rfl
    have n2 : nv 2#8 = 2 := rfl
    go_enter Try.func20, Try.ntmps20
    go_wp2
    go_ret
    exact ⟨rfl, gr_alloc _ _⟩
theorem rName5_out (n : Int) (w : World) (h0 : n < 1 ∨ 4 ≤ n) (h1 : 0 ≤ n) (h255 : n ≤ 255) :
    Calls Try.prog 20 #[.int .u8 n] w fun e w' => e = .returned (.string ⟨#[]⟩) ∧ Below w.heap.size w w' := by
  rcases h0 with h | h
  · go_enter Try.func20, Try.ntmps20
    go_wp2
    go_ret
    exact ⟨rfl, Below.refl _ _⟩
  · have h' : ¬ n < 1 := by omega
    go_enter Try.func20, Try.ntmps20
    go_wp2
    go_ret
    exact ⟨rfl, Below.refl _ _⟩
namespace Sp
theorem nameOf_low {n : Int} (h0 : 0 ≤ n) (h3 : n ≤ 3) : ∃ s : ByteArray, (#[⟨#[]⟩, ⟨#[100, 97, 116, 97]⟩, ⟨#[100, 101, 108, 116, 97]⟩, ⟨#[99, 104, 101, 99, 107, 112, 111, 105, 110, 116]⟩] : Array ByteArray)[n.toNat]? = some s := by
  obtain rfl | rfl | rfl | rfl : n = 0 ∨ n = 1 ∨ n = 2 ∨ n = 3 := by omega
  all_goals exact ⟨_, rfl⟩
def nm (n : Int) : ByteArray := if n ≤ 3 then (#[⟨#[]⟩, ⟨#[100, 97, 116, 97]⟩, ⟨#[100, 101, 108, 116, 97]⟩, ⟨#[99, 104, 101, 99, 107, 112, 111, 105, 110, 116]⟩] : Array ByteArray).getD n.toNat ⟨#[]⟩ else ⟨#[]⟩
end Sp
theorem Name5_any (k : BitVec 8) (s : ByteArray) (w : World) (hs : Sp.nm (uv k) = s) :
    Calls Try.prog 19 #[.int .u8 (uv k)] w fun e w' => e = .returned (.string s) ∧ Below w.heap.size w w' := by
  have h0 := uv_nonneg k
  have h1 := uv8_lt k
  by_cases h3 : uv k ≤ 3
  · obtain ⟨t, ht⟩ := Sp.nameOf_low h0 h3
    have : s = t := by rw [← hs]; unfold Sp.nm; rw [if_pos h3, Array.getD_eq_getD_getElem?, ht]; rfl
    subst this
    exact Name5_low _ _ w h0 h3 ht
  · have : s = ⟨#[]⟩ := by rw [← hs]; unfold Sp.nm; rw [if_neg h3]
    subst this
    exact Name5_high _ w (by omega) (by omega)
theorem rName5_any (k : BitVec 8) (s : ByteArray) (w : World) (hs : Sp.nm (uv k) = s) :
    Calls Try.prog 20 #[.int .u8 (uv k)] w fun e w' => e = .returned (.string s) ∧ Below w.heap.size w w' := by
  have h0 := uv_nonneg k
  have h1 := uv8_lt k
  by_cases h3 : uv k ≤ 3
  · obtain ⟨t, ht⟩ := Sp.nameOf_low h0 h3
    have : s = t := by rw [← hs]; unfold Sp.nm; rw [if_pos h3, Array.getD_eq_getD_getElem?, ht]; rfl
    subst this
    by_cases h2 : 1 ≤ uv k
    · exact rName5_in _ _ w h2 h3 ht
    · have e : uv k = 0 := by omega
      rw [e] at ht
      obtain rfl := Option.some.inj ht
      exact rName5_out _ w (.inl (by omega)) h0 (by omega)
  · have : s = ⟨#[]⟩ := by rw [← hs]; unfold Sp.nm; rw [if_neg h3]
    subst this
    exact rName5_out _ w (.inr (by omega)) h0 (by omega)
theorem num5_any (n : Int) (w : World) : Calls Try.prog 12 #[.int .i64 n] w fun e w' => e = .returned (.int .i64 n) ∧ w = w' := by
  go_enter Try.func12, Try.ntmps12
  go_wp2
  go_ret
  exact ⟨rfl, rfl⟩
end Go.Proofs.Yteicmbapipnbjaa
