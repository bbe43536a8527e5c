/- The walk of DigestBursts. -/
import Derived.Test.YtjbgkbhpalfbiaaLaw02D
import Derived.Test.YtjbgkbhpalfbiaaBurstMath
namespace Go.Proofs.Ytjbgkbhpalfbiaa
open Go.RowKit
set_option linter.unusedVariables false
set_option linter.unusedSimpArgs false
namespace Dig
def flip (mk : Nat → BitVec 8) (l : List (BitVec 8)) (p : Nat) : List (BitVec 8) := l.set (p / 8) (l.getD (p / 8) 0#8 ^^^ mk (p % 8))
def m32 (r : Nat) : BitVec 8 := BitVec.ofInt 8 (2 ^ r)
def m16 (r : Nat) : BitVec 8 := BitVec.ofInt 8 (128 / 2 ^ r)
/-- The bits that are flipped in the first n rounds. -/
def fl (mk : Nat → BitVec 8) (lim : Nat) (pat : BitVec 32) (f : Nat) (b : List (BitVec 8)) : Nat → List (BitVec 8)
  | 0 => b
  | i + 1 => if (i = 0 ∨ pat.getLsbD i = true) ∧ i < lim then flip mk (fl mk lim pat f b i) (f + i) else fl mk lim pat f b i
theorem flip_len (mk : Nat → BitVec 8) (l : List (BitVec 8)) (p : Nat) : (flip mk l p).length = l.length := by simp [flip]
theorem m32_get (r j : Nat) (hr : r < 8) (hj : j < 8) : (m32 r).getLsbD j = decide (j = r) := by
  rcases (show r = 0 ∨ r = 1 ∨ r = 2 ∨ r = 3 ∨ r = 4 ∨ r = 5 ∨ r = 6 ∨ r = 7 by omega) with rfl | rfl | rfl | rfl | rfl | rfl | rfl | rfl <;>
  rcases (show j = 0 ∨ j = 1 ∨ j = 2 ∨ j = 3 ∨ j = 4 ∨ j = 5 ∨ j = 6 ∨ j = 7 by omega) with rfl | rfl | rfl | rfl | rfl | rfl | rfl | rfl <;> decide
theorem m16_get (r j : Nat) (hr : r < 8) (hj : j < 8) : (m16 r).getLsbD (7 - j) = decide (j = r) := by
  rcases (show r = 0 ∨ r = 1 ∨ r = 2 ∨ r = 3 ∨ r = 4 ∨ r = 5 ∨ r = 6 ∨ r = 7 by omega) with rfl | rfl | rfl | rfl | rfl | rfl | rfl | rfl <;>
  rcases (show j = 0 ∨ j = 1 ∨ j = 2 ∨ j = 3 ∨ j = 4 ∨ j = 5 ∨ j = 6 ∨ j = 7 by omega) with rfl | rfl | rfl | rfl | rfl | rfl | rfl | rfl <;> decide
theorem at32_flip (l : List (BitVec 8)) (p q : Nat) (hp : p < 8 * l.length) : at32 (flip m32 l p) q = if q = p then !at32 l q else at32 l q := by
  unfold at32 flip
  by_cases h : q / 8 = p / 8
  · rw [h, List.getD_eq_getElem?_getD, List.getElem?_set_self (by omega)]
    simp only [Option.getD_some, BitVec.getLsbD_xor, m32_get _ _ (Nat.mod_lt p (by omega)) (Nat.mod_lt q (by omega))]
    by_cases e : q = p
    · subst e; simp
    · have : ¬ (q % 8 = p % 8) := by omega
      simp [e, this]
  · have e : q ≠ p := fun e => h (by rw [e])
    rw [if_neg e, List.getD_eq_getElem?_getD, List.getElem?_set_ne (by omega), ← List.getD_eq_getElem?_getD]
theorem at16_flip (l : List (BitVec 8)) (p q : Nat) (hp : p < 8 * l.length) : at16 (flip m16 l p) q = if q = p then !at16 l q else at16 l q := by
  unfold at16 flip
  by_cases h : q / 8 = p / 8
  · rw [h, List.getD_eq_getElem?_getD, List.getElem?_set_self (by omega)]
    simp only [Option.getD_some, BitVec.getLsbD_xor, m16_get _ _ (Nat.mod_lt p (by omega)) (Nat.mod_lt q (by omega))]
    by_cases e : q = p
    · subst e; simp
    · have : ¬ (q % 8 = p % 8) := by omega
      simp [e, this]
  · have e : q ≠ p := fun e => h (by rw [e])
    rw [if_neg e, List.getD_eq_getElem?_getD, List.getElem?_set_ne (by omega), ← List.getD_eq_getElem?_getD]
theorem fl_spec (mk : Nat → BitVec 8) (att : List (BitVec 8) → Nat → Bool) (hat : ∀ l p q, p < 8 * l.length → att (flip mk l p) q = if q = p then !att l q else att l q) (lim : Nat) (hlim : 0 < lim) (pat : BitVec 32) (f : Nat) (b : List (BitVec 8)) :
    ∀ n, f + n ≤ 8 * b.length → (fl mk lim pat f b n).length = b.length ∧ (∀ p, p < f ∨ f + min n lim ≤ p → att (fl mk lim pat f b n) p = att b p) ∧ (0 < n → att (fl mk lim pat f b n) f ≠ att b f)
  | 0, _ => ⟨rfl, fun _ _ => rfl, fun h => absurd h (by omega)⟩
  | n + 1, h => by
    obtain ⟨h1, h2, h3⟩ := fl_spec mk att hat lim hlim pat f b n (by omega)
    unfold fl
    split
    · rename_i hc
      refine ⟨by rw [flip_len, h1], fun p hp => ?_, fun _ => ?_⟩
      · rw [hat _ _ _ (by rw [h1]; omega), if_neg (by omega)]
        exact h2 p (by omega)
      · rw [hat _ _ _ (by rw [h1]; omega)]
        by_cases e : n = 0
        · subst e; simp [fl]
        · rw [if_neg (by omega)]; exact h3 (by omega)
    · rename_i hc
      refine ⟨h1, fun p hp => h2 p (by omega), fun _ => ?_⟩
      by_cases e : n = 0
      · subst e; exact absurd ⟨.inl rfl, hlim⟩ hc
      · exact h3 (by omega)
theorem fl32_ne (pat : BitVec 32) (f : Nat) (b : List (BitVec 8)) (n : Nat) (h : f + n ≤ 8 * b.length) (hn : 0 < n) (hn' : n ≤ 32) : crc32 (fl m32 32 pat f b n) ≠ crc32 b := by
  obtain ⟨h1, h2, h3⟩ := fl_spec m32 at32 at32_flip 32 (by omega) pat f b n h
  have := burst32 b _ f n h1 hn' hn h (h3 hn) (fun p hp => h2 p (by omega)) (BitVec.allOnes 32)
  intro e
  unfold crc32 at e
  exact this (by simpa using congrArg (fun x => ~~~ x) e)
theorem fl16_ne (pat : BitVec 32) (f : Nat) (b : List (BitVec 8)) (n : Nat) (h : f + n ≤ 8 * b.length) (hn : 0 < n) : crc16 (fl m16 16 pat f b n) ≠ crc16 b := by
  obtain ⟨h1, h2, h3⟩ := fl_spec m16 at16 at16_flip 16 (by omega) pat f b n h
  exact burst16 b _ f (min n 16) h1 (by omega) (by omega) (by omega) (h3 hn) (fun p hp => h2 p (by omega)) 0#16
theorem fl_len32 (pat : BitVec 32) (f : Nat) (b : List (BitVec 8)) (n : Nat) (h : f + n ≤ 8 * b.length) : (fl m32 32 pat f b n).length = b.length := (fl_spec m32 at32 at32_flip 32 (by omega) pat f b n h).1
theorem fl_len16 (pat : BitVec 32) (f : Nat) (b : List (BitVec 8)) (n : Nat) (h : f + n ≤ 8 * b.length) : (fl m16 16 pat f b n).length = b.length := (fl_spec m16 at16 at16_flip 16 (by omega) pat f b n h).1
theorem by8_flip (mk : Nat → BitVec 8) (l : List (BitVec 8)) (p : Nat) (x : BitVec 8) (h : l[p / 8]? = some x) : (by8 l).set (p / 8) (.int .u8 (uv (x ^^^ mk (p % 8)))) = by8 (flip mk l p) := by
  unfold flip by8
  rw [List.map_set, List.getD_eq_getElem?_getD, h]; rfl
theorem bit_zero (pat : BitVec 32) (i : Nat) (h : pat.getLsbD i = false) : uv (pat >>> i &&& 1#32) = 0 := by
  have : pat >>> i &&& 1#32 = 0#32 := by
    apply BitVec.eq_of_getLsbD_eq
    intro j hj
    match j with
    | 0 => simp [h]
    | j + 1 => simp
  rw [this]; rfl
theorem bit_one (pat : BitVec 32) (i : Nat) (h : pat.getLsbD i = true) : uv (pat >>> i &&& 1#32) = 1 := by
  have : pat >>> i &&& 1#32 = 1#32 := by
    apply BitVec.eq_of_getLsbD_eq
    intro j hj
    match j with
    | 0 => simp [h]
    | j + 1 => simp
  rw [this]; rfl
end Dig

theorem own_parts {w : World} {base : Nat} {e : TypeId} {v : Value} {l : List (BitVec 8)} (h : w.ownsRow base e 1 v l.length (by8 l)) (hl : 0 < l.length) : ∃ g c, v = .slice (some ⟨g, 0, none⟩) l.length c ∧ base ≤ g ∧ g < w.heap.size := by
  have hlt := h.lt
  obtain ⟨h1, h2⟩ := h
  rcases h2 with ⟨e1, e2⟩ | ⟨g, cap, cur, hv, hg, hh, r1, r2, r3, r4⟩
  · omega
  · subst hv; exact ⟨g, cap, rfl, hlt g rfl⟩
theorem lawB_out (v : Value) (b : List (BitVec 8)) (first : Int) (pat : BitVec 32) (w : World) (hv : BytesV w v b) (h : 500 < b.length ∨ (b.length ≤ 500 ∧ (first < 0 ∨ (0 ≤ first ∧ 8 * (b.length : Int) ≤ first)))) :
    Calls Try.prog 7 #[v, .int .i64 first, .int .u32 (uv pat)] w fun e w' => e = .returned (.bool true) ∧ Below w.heap.size w w' := by
  obtain ⟨a, c, rfl, _, _, _, _⟩ := hv
  rcases h with h | ⟨h, h | ⟨h, h'⟩⟩
  · go_enter Try.func7, Try.ntmps7
    go_wp2_with (go_at_call 10; refine (known_any _).mono ?_; rintro e w1 ⟨rfl, hb⟩)
    go_ret
    exact ⟨rfl, hb⟩
  · go_enter Try.func7, Try.ntmps7
    go_wp2_with (go_at_call 10; refine (known_any _).mono ?_; rintro e w1 ⟨rfl, hb⟩)
    go_ret
    exact ⟨rfl, hb⟩
  · go_enter Try.func7, Try.ntmps7
    go_wp2_with (go_at_call 10; refine (known_any _).mono ?_; rintro e w1 ⟨rfl, hb⟩)
    go_ret
    exact ⟨rfl, hb⟩
end Go.Proofs.Ytjbgkbhpalfbiaa
