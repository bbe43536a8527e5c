/- The walks of the laws of layer 2, continued: Digest16, DigestUpdates, DigestParts. -/
import Derived.Test.YtjbgkbhpalfbiaaLaw02A
namespace Go.Proofs.Ytjbgkbhpalfbiaa
open Go.RowKit
set_option linter.unusedVariables false
set_option linter.unusedSimpArgs false

theorem law16_big (v : Value) (l : List (BitVec 8)) (w : World) (hv : BytesV w v l) (hl : 2000 < l.length) :
    Calls Try.prog 4 #[v] w fun e w' => e = .returned (.bool true) ∧ Below w.heap.size w w' := by
  obtain ⟨a, c, rfl, _, _, _, _⟩ := hv
  go_enter Try.func4, Try.ntmps4
  go_wp2_with (go_at_call 10; refine (known_any _).mono ?_; rintro e w1 ⟨rfl, hb⟩)
  go_ret
  exact ⟨rfl, hb⟩
theorem law16_small (v : Value) (l : List (BitVec 8)) (w : World) (hv : BytesV w v l) (hl : l.length ≤ 2000) :
    Calls Try.prog 4 #[v] w fun e w' => e = .returned (.bool true) ∧ Below w.heap.size w w' := by
  have HV := Lib.hid hv
  obtain ⟨a, c, rfl, _, _, _, _⟩ := hv
  go_enter Try.func4, Try.ntmps4
  go_wp2_with fail
  refine (Own_any _ l _ HV.out (by omega)).mono ?_
  rintro e w1 ⟨u, rfl, hown, hb1⟩
  have HO := Lib.hid (BytesV.of_own hown); clear hown
  have HB1 := Lib.hid hb1; clear hb1
  obtain ⟨a', c', rfl, _, _, _, _⟩ := id HO.out
  go_wp2_with fail
  refine (CRC16_any _ l _ HO.out).mono ?_
  rintro e w2 ⟨rfl, hb2⟩
  have HB2 := Lib.hid hb2; clear hb2
  go_wp2_with fail
  refine (rCRC16_any _ l _ ((HV.out.below HB1.out).below HB2.out)).mono ?_
  rintro e w2 ⟨rfl, rfl⟩
  go_wp2_with fail
  refine (Same_any _ _ l l _ (HO.out.below HB2.out) ((HV.out.below HB1.out).below HB2.out)).mono ?_
  rintro e w2 ⟨rfl, rfl⟩
  go_wp2_with (go_at_call 10; refine (known_any _).mono ?_; rintro e w3 ⟨rfl, hb3⟩)
  go_ret
  exact ⟨rfl, gr_tr (gr_tr HB1.out HB2.out) hb3⟩
theorem law16 (v : Value) (l : List (BitVec 8)) (w : World) (hv : BytesV w v l) :
    Calls Try.prog 4 #[v] w fun e w' => e = .returned (.bool true) ∧ Below w.heap.size w w' := by
  by_cases h : l.length ≤ 2000
  · exact law16_small v l w hv h
  · exact law16_big v l w hv (by omega)

theorem lawU_big (s : BitVec 32) (t : BitVec 16) (v : Value) (l : List (BitVec 8)) (w : World) (hv : BytesV w v l) (hl : 1000 < l.length) :
    Calls Try.prog 8 #[.int .u32 (uv s), .int .u16 (uv t), v] w fun e w' => e = .returned (.bool true) ∧ Below w.heap.size w w' := by
  obtain ⟨a, c, rfl, _, _, _, _⟩ := hv
  go_enter Try.func8, Try.ntmps8
  go_wp2_with (go_at_call 10; refine (known_any _).mono ?_; rintro e w1 ⟨rfl, hb⟩)
  go_ret
  exact ⟨rfl, hb⟩
theorem lawU_small (s : BitVec 32) (t : BitVec 16) (v : Value) (l : List (BitVec 8)) (w : World) (hv : BytesV w v l) (hl : l.length ≤ 1000) :
    Calls Try.prog 8 #[.int .u32 (uv s), .int .u16 (uv t), v] w fun e w' => e = .returned (.bool true) ∧ Below w.heap.size w w' := by
  have HV := Lib.hid hv
  obtain ⟨a, c, rfl, _, _, _, _⟩ := hv
  go_enter Try.func8, Try.ntmps8
  go_wp2_with fail
  refine (Update32_any _ _ l _ HV.out).mono ?_
  rintro e w1 ⟨rfl, hb1⟩
  have HB1 := Lib.hid hb1; clear hb1
  go_wp2_with fail
  refine (rUpdate32_any _ _ l _ (HV.out.below HB1.out)).mono ?_
  rintro e w1 ⟨rfl, rfl⟩
  go_wp2_with fail
  refine (Update16_any _ _ l _ (HV.out.below HB1.out)).mono ?_
  rintro e w2 ⟨rfl, hb2⟩
  have HB2 := Lib.hid hb2; clear hb2
  go_wp2_with fail
  refine (rUpdate16_any _ _ l _ ((HV.out.below HB1.out).below HB2.out)).mono ?_
  rintro e w2 ⟨rfl, rfl⟩
  go_wp2_with (go_at_call 10; refine (known_any _).mono ?_; rintro e w3 ⟨rfl, hb3⟩)
  go_ret
  exact ⟨rfl, gr_tr (gr_tr HB1.out HB2.out) hb3⟩
theorem lawU (s : BitVec 32) (t : BitVec 16) (v : Value) (l : List (BitVec 8)) (w : World) (hv : BytesV w v l) :
    Calls Try.prog 8 #[.int .u32 (uv s), .int .u16 (uv t), v] w fun e w' => e = .returned (.bool true) ∧ Below w.heap.size w w' := by
  by_cases h : l.length ≤ 1000
  · exact lawU_small s t v l w hv h
  · exact lawU_big s t v l w hv (by omega)

theorem flat_take (ls : List (List (BitVec 8))) (k : Nat) (l : List (BitVec 8)) (h : ls[k]? = some l) : (ls.take (k + 1)).flatten = (ls.take k).flatten ++ l := by
  obtain ⟨hk, rfl⟩ := List.getElem?_eq_some_iff.1 h
  rw [List.take_succ_eq_append_getElem hk, List.flatten_append]; simp
theorem flat_len (ls : List (List (BitVec 8))) (k : Nat) (h : ∀ (i : Nat) l, i < k → ls[i]? = some l → l.length ≤ 200) : (ls.take k).flatten.length ≤ 200 * k := by
  induction k with
  | zero => simp
  | succ k ih =>
    have h1 := ih (fun i l hi hl => h i l (by omega) hl)
    by_cases hk : k < ls.length
    · rw [flat_take ls k _ (List.getElem?_eq_getElem hk), List.length_append]
      have := h k _ (by omega) (List.getElem?_eq_getElem hk)
      omega
    · rw [List.take_of_length_le (by omega)] at *
      omega
theorem lawP_big (v : Value) (ls : List (List (BitVec 8))) (w : World) (hv : PartsV w v ls) (hl : 20 < ls.length) :
    Calls Try.prog 5 #[v] w fun e w' => e = .returned (.bool true) ∧ Below w.heap.size w w' := by
  obtain ⟨a, c, vs, rfl, _⟩ := hv
  go_enter Try.func5, Try.ntmps5
  go_wp2_with (go_at_call 10; refine (known_any _).mono ?_; rintro e w1 ⟨rfl, hb⟩)
  go_ret
  exact ⟨rfl, hb⟩
set_option maxHeartbeats 400000 in
theorem lawP_small (v : Value) (ls : List (List (BitVec 8))) (w : World) (hv : PartsV w v ls) (hl : ls.length ≤ 20) :
    Calls Try.prog 5 #[v] w fun e w' => e = .returned (.bool true) ∧ Below w.heap.size w w' := by
  have HV := Lib.hid hv
  obtain ⟨a, c, vs, rfl, _, hc, hm, hrow, hvl, hparts⟩ := hv
  have HROW := Lib.hid hrow; clear hrow
  have HVL := Lib.hid hvl; clear hvl
  have HP := Lib.hid hparts; clear hparts
  go_enter Try.func5, Try.ntmps5
  go_wp2
  go_loopw [3, 4] (fun u i wr => ∃ k : Nat, k ≤ ls.length ∧ i = .int .i64 k ∧ wr.ownsRow w.heap.size 5 1 u (ls.take k).flatten.length (by8 (ls.take k).flatten) ∧ (∀ (j : Nat) l, j < k → ls[j]? = some l → l.length ≤ 200) ∧ Below w.heap.size w wr) (fun _ i _ => ls.length - (intOf i).toNat)
  case atStart => exact ⟨0, by omega, rfl, World.ownsRow_nil _ _ _ _, fun j l h => absurd h (by omega), Below.refl _ _⟩
  case round =>
    obtain ⟨k, hk, rfl, hown, hlen, hb⟩ := hrel
    have HO := Lib.hid hown; clear hown
    have HL := Lib.hid hlen; clear hlen
    have HB := Lib.hid hb; clear hb
    by_cases hlt : k < ls.length
    · obtain ⟨l, hlk⟩ : ∃ l, ls[k]? = some l := ⟨ls[k], List.getElem?_eq_getElem hlt⟩
      obtain ⟨x, hx, hbx⟩ := HP.out k l hlk
      obtain ⟨b, o, rfl, hcell⟩ := (HROW.out.below HB.out).at hx
      obtain ⟨a2, c2, rfl, hn2, hlc2, hc2, hr2⟩ := hbx.below HB.out
      have HR2 := Lib.hid hr2; clear hr2
      have HN2 := Lib.hid hn2; clear hn2
      have HLK := Lib.hid hlk; clear hlk
      have HX := Lib.hid hx; clear hx
      clear hbx
      by_cases hbig : l.length ≤ 200
      · have hfl : (ls.take k).flatten.length ≤ 4000 := by have := flat_len ls k HL.out; omega
        have HFT := Lib.hid (flat_take ls k l HLK.out)
        go_wp2_with (at_builtin; refine app_law bytesOk rfl _ _ rfl w.heap.size _ _ _ rfl HO.out a2 l.length c2 (by8 l) rfl HN2.out hlc2 HR2.out (by simp) (by8_one l) (by omega) (by omega) HB.out.size ?_; intro v' w1 hown1 hgrow1 _; have HO1 := Lib.hid hown1; clear hown1; have HG1 := Lib.hid hgrow1; clear hgrow1)
        go_roundw
        case rel =>
          refine ⟨k + 1, by omega, by go_num, ?_, ?_, ?_⟩
          · rw [HFT.out, List.length_append, by8_append]; exact HO1.out
          · intro j l' hj hl'
            by_cases e : j = k
            · subst e; rw [HLK.out] at hl'; cases hl'; exact hbig
            · exact HL.out j l' (by omega) hl'
          · exact HB.out.grown HG1.out HB.out.size (fun k hk => ((HO.out.lt) k hk).1)
        case measure => simp [intOf]; omega
      · go_wp2_with (go_at_call 10; refine (known_any _).mono ?_; rintro e w1 ⟨rfl, hb1⟩)
        go_ret
        exact ⟨rfl, gr_tr HB.out hb1⟩
    · obtain rfl : k = ls.length := by omega
      have HF := Lib.hid (BytesV.of_own HO.out)
      rw [List.take_length] at HF
      obtain ⟨fl, hfl⟩ : ∃ fl, fl = ls.flatten := ⟨_, rfl⟩
      rw [← hfl] at HF
      have HFL := Lib.hid hfl; clear hfl
      obtain ⟨a', c', rfl, _, _, _, _⟩ := id HF.out
      have HP1 := Lib.hid (HV.out.below HB.out)
      go_wp2_with fail
      have S32 := Sum32_any _ ls _ HP1.out
      rw [← HFL.out] at S32
      refine S32.mono ?_
      clear S32
      rintro e w1 ⟨rfl, hb1⟩
      have HB1 := Lib.hid hb1; clear hb1
      go_wp2_with fail
      refine (rCRC32C_any _ fl _ (HF.out.below HB1.out)).mono ?_
      rintro e w1 ⟨rfl, rfl⟩
      go_wp2_with fail
      have S16 := Sum16_any _ ls _ (HP1.out.below HB1.out)
      rw [← HFL.out] at S16
      refine S16.mono ?_
      clear S16
      rintro e w2 ⟨rfl, hb2⟩
      have HB2 := Lib.hid hb2; clear hb2
      go_wp2_with fail
      refine (rCRC16_any _ fl _ ((HF.out.below HB1.out).below HB2.out)).mono ?_
      rintro e w2 ⟨rfl, rfl⟩
      go_wp2_with (go_at_call 10; refine (known_any _).mono ?_; rintro e w3 ⟨rfl, hb3⟩)
      go_ret
      exact ⟨rfl, gr_tr (gr_tr (gr_tr HB.out HB1.out) HB2.out) hb3⟩
theorem lawP (v : Value) (ls : List (List (BitVec 8))) (w : World) (hv : PartsV w v ls) :
    Calls Try.prog 5 #[v] w fun e w' => e = .returned (.bool true) ∧ Below w.heap.size w w' := by
  by_cases h : ls.length ≤ 20
  · exact lawP_small v ls w hv h
  · exact lawP_big v ls w hv (by omega)
end Go.Proofs.Ytjbgkbhpalfbiaa
