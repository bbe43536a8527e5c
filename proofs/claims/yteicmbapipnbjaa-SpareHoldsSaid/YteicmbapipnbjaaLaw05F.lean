/- The walk of SpareHolds. -/
import Derived.Test.YteicmbapipnbjaaLaw05D
import Derived.Test.YteicmbapipnbjaaSpareMath2
import Derived.StillTailTactics
namespace Go.Proofs.Yteicmbapipnbjaa
open Go.RowKit
set_option linter.unusedVariables false
set_option linter.unusedSimpArgs false
theorem arr4_equalIn (a b c d a' b' c' d' : Int) (w : World) : (Op.equalIn 10000 40 (.agg #[.int .u8 a, .int .u8 b, .int .u8 c, .int .u8 d]) (.agg #[.int .u8 a', .int .u8 b', .int .u8 c', .int .u8 d'])).run Try.prog w = .ok (a == a' && b == b' && c == c' && d == d') w := by
  have u1 := Try.underlying5
  have ss : ∀ w, (sizeOf 5).run Try.prog w = .ok 1 w := fun _ => by kernel_rfl
  rw [show (10000 : Nat) = 9999 + 1 from rfl]
  rw [Op.equalIn]
  simp only [Sem.run_bind, run_underlying Try.underlying40, Result.andThen_ok, ss]
  simp only [Std.Legacy.Range.forIn_eq_forIn_range', Std.Legacy.Range.size]
  simp [List.range', go_sem, u1]
  by_cases h1 : a = a' <;> by_cases h2 : b = b' <;> by_cases h3 : c = c' <;> by_cases h4 : d = d' <;> simp [h1, h2, h3, h4]
theorem arr4_eql (a b c d a' b' c' d' : Int) (w : World) : (binOp .eql 40 (.agg #[.int .u8 a, .int .u8 b, .int .u8 c, .int .u8 d]) (.agg #[.int .u8 a', .int .u8 b', .int .u8 c', .int .u8 d'])).run Try.prog w = .ok (.bool (a == a' && b == b' && c == c' && d == d')) w := by
  rw [run_eql_struct, arr4_equalIn]; rfl
theorem own_pos {w : World} {base n : Nat} {e : TypeId} {v : Value} {xs : List Value} (h : w.ownsRow base e 1 v n xs) (hn : 0 < n) : ∃ g c, v = .slice (some ⟨g, 0, none⟩) n c := by
  obtain ⟨h1, h2⟩ := h
  rcases h2 with ⟨e1, e2⟩ | ⟨g, cap, cur, hv, _⟩
  · omega
  · exact ⟨_, _, hv⟩
namespace Sp
/-- What stands from K on when the bytes of c were added there. -/
def plus (A : List (BitVec 8)) (K : Nat) (c : List (BitVec 8)) : List (BitVec 8) := List.zipWith (· + ·) (A.drop K) c
theorem plus_len (A : List (BitVec 8)) (K : Nat) (c : List (BitVec 8)) (h : K + c.length ≤ A.length) : (plus A K c).length = c.length := by simp [plus]; omega
theorem zip_snoc (l c : List (BitVec 8)) (x y : BitVec 8) (h : l[c.length]? = some x) : List.zipWith (· + ·) l (c ++ [y]) = List.zipWith (· + ·) l c ++ [x + y] := by
  induction c generalizing l with
  | nil =>
    match l, h with
    | a :: r, h => simp at h; simp [h]
  | cons b c ih =>
    match l, h with
    | a :: r, h => simp at h; simp [ih r h]
theorem plus_snoc (A : List (BitVec 8)) (K : Nat) (c : List (BitVec 8)) (x y : BitVec 8) (hx : A[K + c.length]? = some x) : plus A K (c ++ [y]) = plus A K c ++ [x + y] := zip_snoc _ _ _ _ (by rw [List.getElem?_drop]; exact hx)
theorem plus_step (A : List (BitVec 8)) (K : Nat) (c : List (BitVec 8)) (j : Nat) (x y : BitVec 8) (hj : c[j]? = some y) (hx : A[K + j]? = some x) (h : K + c.length ≤ A.length) : (lay A K (plus A K (c.take j))).set (K + j) (x + y) = lay A K (plus A K (c.take (j + 1))) := by
  obtain ⟨hl, e⟩ := List.getElem?_eq_some_iff.1 hj
  have hl2 : (c.take j).length = j := by simp; omega
  have e2 : c.take (j + 1) = c.take j ++ [y] := by rw [List.take_succ_eq_append_getElem hl, e]
  rw [e2, plus_snoc A K (c.take j) x y (by rw [hl2]; exact hx)]
  have e3 := lay_push A K (plus A K (c.take j)) (x + y) (by rw [plus_len _ _ _ (by rw [hl2]; omega), hl2]; omega)
  rw [plus_len _ _ _ (by rw [hl2]; omega), hl2] at e3
  exact e3
theorem plus_get (A : List (BitVec 8)) (K j : Nat) (c : List (BitVec 8)) (x : BitVec 8) (hx : A[K + j]? = some x) (hj : j ≤ c.length) (h : K + c.length ≤ A.length) : (lay A K (plus A K (c.take j)))[K + j]? = some x := by
  have hl : (c.take j).length = j := by simp; omega
  rw [lay_get_out _ _ _ (by rw [plus_len _ _ _ (by rw [hl]; omega), hl]; omega) _ (.inr (by rw [plus_len _ _ _ (by rw [hl]; omega), hl]; omega))]
  exact hx
theorem plus_zero (A : List (BitVec 8)) (K n : Nat) (h : K + n ≤ A.length) : lay A K (plus A K (List.replicate n 0#8)) = A := by
  apply List.ext_getElem?
  intro j
  have hl : (plus A K (List.replicate n 0#8)).length = n := by rw [plus_len _ _ _ (by simp; omega), List.length_replicate]
  by_cases hj : K ≤ j ∧ j < K + n
  · have := lay_get_in A K (plus A K (List.replicate n 0#8)) (by omega) (j - K) (by omega)
    rw [show K + (j - K) = j by omega] at this
    rw [this]
    unfold plus
    rw [List.getElem?_zipWith, List.getElem?_drop, show K + (j - K) = j by omega, List.getElem?_replicate, if_pos (by omega)]
    cases A[j]? <;> simp
  · exact lay_get_out A K _ (by omega) j (by omega)
theorem plus_ne (A : List (BitVec 8)) (K : Nat) (c : List (BitVec 8)) (h : K + c.length ≤ A.length) (hc : c ≠ List.replicate c.length 0#8) : lay A K (plus A K c) ≠ A := by
  intro he
  apply hc
  rw [List.eq_replicate_iff]
  refine ⟨rfl, fun y hy => ?_⟩
  obtain ⟨j, hj, rfl⟩ := List.getElem_of_mem hy
  have h1 := lay_get_in A K (plus A K c) (by rw [plus_len _ _ _ h]; omega) j (by rw [plus_len _ _ _ h]; omega)
  rw [he] at h1
  unfold plus at h1
  rw [List.getElem?_zipWith, List.getElem?_drop, List.getElem?_eq_getElem (show K + j < A.length by omega), List.getElem?_eq_getElem hj] at h1
  simp at h1
  have h2 : A[K + j] + c[j] = A[K + j] + 0#8 := by rw [← h1]
  exact (BitVec.add_right_inj _).1 h2
end Sp
set_option maxRecDepth 8000 in
set_option maxHeartbeats 3200000 in
theorem lawHolds4 (k : BitVec 8) (s : Int) (q p : BitVec 64) (i n : Int) (v : Value) (l : List (BitVec 8)) (K : Int) (c0 c1 c2 c3 : BitVec 8) (w : World) (hv : BytesV w v l) (hK : -9223372036854775808 ≤ K ∧ K ≤ 9223372036854775807) :
    Calls Try.prog 5 #[.agg #[.int .u8 (uv k), .int .i64 s, .int .u64 (uv q), .int .u64 (uv p), .int .i64 i, .int .i64 n], v, .int .i64 K, .agg #[.int .u8 (uv c0), .int .u8 (uv c1), .int .u8 (uv c2), .int .u8 (uv c3)]] w fun e w' => e = .returned (.bool true) ∧ Below w.heap.size w w' := by
  have ha0 := gr_alloc w (.cells #[.int .u8 (uv k), .int .i64 s, .int .u64 (uv q), .int .u64 (uv p), .int .i64 i, .int .i64 n] 25)
  have hs0 := heap_alloc_new w (.cells #[.int .u8 (uv k), .int .i64 s, .int .u64 (uv q), .int .u64 (uv p), .int .i64 i, .int .i64 n] 25)
  have ha1 := gr_alloc (w.alloc (.cells #[.int .u8 (uv k), .int .i64 s, .int .u64 (uv q), .int .u64 (uv p), .int .i64 i, .int .i64 n] 25)) (.cells #[.int .u8 (uv c0), .int .u8 (uv c1), .int .u8 (uv c2), .int .u8 (uv c3)] 40)
  have hs1 := heap_alloc_new (w.alloc (.cells #[.int .u8 (uv k), .int .i64 s, .int .u64 (uv q), .int .u64 (uv p), .int .i64 i, .int .i64 n] 25)) (.cells #[.int .u8 (uv c0), .int .u8 (uv c1), .int .u8 (uv c2), .int .u8 (uv c3)] 40)
  have hb0 := gr_tr ha0 ha1
  replace hs0 := blk_below hs0 ha1
  rw [World.size_alloc] at hs1
  obtain ⟨W, hW⟩ : ∃ W, W = (w.alloc (.cells #[.int .u8 (uv k), .int .i64 s, .int .u64 (uv q), .int .u64 (uv p), .int .i64 i, .int .i64 n] 25)).alloc (.cells #[.int .u8 (uv c0), .int .u8 (uv c1), .int .u8 (uv c2), .int .u8 (uv c3)] 40) := ⟨_, rfl⟩
  rw [← hW] at hb0 hs0 hs1
  clear ha0 ha1
  have hV := hv.below hb0
  obtain ⟨av, cv, rfl, -⟩ := id hv
  have HW := Lib.hid hW; have B := Lib.hid hb0; have S0 := Lib.hid hs0; have A0 := Lib.hid hs1; have V := Lib.hid hV; clear hW hb0 hs0 hs1 hV hv
  by_cases h300 : l.length ≤ 300
  · have HL := Lib.hid (show l.length ≤ 1000000 by omega); have HL2 := Lib.hid (show l.length ≤ 140737488355328 by omega)
    have hd : decide ((l.length : Int) > 300) = false := by simp; omega
    by_cases hneg : K < 0
    · clear hK
      have hx := hneg
      go_enter Try.func5, Try.ntmps5
      go_upto_region 1 with fail
      rw [← HW.out]
      go_wp2_with (go_at_call 8; go_loud ((with_reducible refine (works5_any _).mono ?_); rintro r w9 ⟨rfl, hw⟩; replace B := Lib.hid (gr_tr B.out hw); clear hw))
      go_ret
      exact ⟨rfl, B.out⟩
    · by_cases hbig : (l.length : Int) + 60 < K
      · clear hK
        have hx : ¬ K < 0 := hneg
        go_enter Try.func5, Try.ntmps5
        go_upto_region 1 with fail
        rw [← HW.out]
        go_wp2_with (go_at_call 8; go_loud ((with_reducible refine (works5_any _).mono ?_); rintro r w9 ⟨rfl, hw⟩; replace B := Lib.hid (gr_tr B.out hw); clear hw))
        go_ret
        exact ⟨rfl, B.out⟩
      · obtain ⟨kn, rfl⟩ : ∃ kn : Nat, K = kn := ⟨K.toNat, by omega⟩
        have hkn : kn ≤ l.length + 60 := by omega
        clear hneg hbig hK
        have hk2 : ¬ ((l.length : Int) + 60 < (kn : Int)) := by omega
        have hk3 : decide ((kn : Int) < 0) = false := by simp
        obtain ⟨vb, hvb⟩ : ∃ b, Sp.valid k s q p i n = b := ⟨_, rfl⟩
        have HVB := Lib.hid hvb; clear hvb
        cases vb
        · go_enter Try.func5, Try.ntmps5
          go_upto_region 1 with fail
          rw [← HW.out]
          go_wp2_with (first
            | (refine wpList_load_row rfl 25 (.tmp 4) rfl w.heap.size rfl 25 _ (0, 0) _ S0.out Try.underlying25 rfl (by kernel_rfl) ?_)
            | (go_at_call 9; go_loud ((with_reducible refine (Encode5_no k s q p i n _ _ HVB.out).mono ?_); rintro r w2 ⟨rfl, hw⟩; replace B := Lib.hid (gr_tr B.out hw); clear hw))
            | (go_at_call 12; go_loud (refine (num5_any _ _).mono ?_; rintro r w' ⟨rfl, rfl⟩))
            | (go_at_call 8; go_loud ((with_reducible refine (works5_any _).mono ?_); rintro r w9 ⟨rfl, hw⟩; replace B := Lib.hid (gr_tr B.out hw); clear hw)))
          go_ret
          exact ⟨rfl, B.out⟩
        · obtain ⟨E, hE⟩ : ∃ E, Sp.enc k s q p i n l = E := ⟨_, rfl⟩
          have hE64 : E.length = 64 := by rw [← hE]; exact Sp.enc_len ..
          have hEe : Sp.err l E = 0 := by rw [← hE]; exact Sp.err_enc l HVB.out
          have hEc : Sp.valC l E = #[.int .u8 (uv k), .int .i64 s, .int .u64 (uv q), .int .u64 (uv p), .int .i64 i, .int .i64 n] := by
            rw [Sp.val_good hEe, ← hE]
            obtain ⟨a1, a2, a3, a4, a5, a6⟩ := Sp.enc_fields l HVB.out
            rw [a1, a2, a3, a4, a5, a6]
          obtain ⟨A, hA⟩ : ∃ A, l ++ E = A := ⟨_, rfl⟩
          have hAl : A.length = l.length + 64 := by rw [← hA]; simp [hE64]
          obtain ⟨N, hN⟩ : ∃ N, l.length + 64 = N := ⟨_, rfl⟩
          obtain ⟨cl, hcl⟩ : ∃ cl : List (BitVec 8), [c0, c1, c2, c3] = cl := ⟨_, rfl⟩
          have hcl4 : cl.length = 4 := by rw [← hcl]; rfl
          obtain ⟨T, hT⟩ : ∃ T, Sp.lay A kn (Sp.plus A kn cl) = T := ⟨_, rfl⟩
          have hTl : T.length = l.length + 64 := by rw [← hT, Sp.lay_len _ _ _ (by rw [Sp.plus_len _ _ _ (by omega)]; omega), hAl]
          obtain ⟨lo, hlo⟩ : ∃ x, T.take l.length = x := ⟨_, rfl⟩
          obtain ⟨hi, hhi⟩ : ∃ x, T.drop l.length = x := ⟨_, rfl⟩
          obtain ⟨er, her⟩ : ∃ e, Sp.err lo hi = e := ⟨_, rfl⟩
          obtain ⟨cc, hcc⟩ : ∃ c, Sp.valC lo hi = c := ⟨_, rfl⟩
          obtain ⟨hsz, hall, heq⟩ := Sp.valC_facts lo hi
          rw [hcc] at hsz hall heq
          obtain ⟨z, hz⟩ : ∃ z, (uv c0 == 0 && uv c1 == 0 && uv c2 == 0 && uv c3 == 0) = z := ⟨_, rfl⟩
          have hlaw0 : z = true → er = 0 ∧ cc = #[.int .u8 (uv k), .int .i64 s, .int .u64 (uv q), .int .u64 (uv p), .int .i64 i, .int .i64 n] := by
            intro h0
            rw [h0] at hz
            simp only [Bool.and_eq_true, beq_iff_eq] at hz
            have hz0 : ∀ x : BitVec 8, uv x = 0 → x = 0#8 := fun x hx => uv_inj (by rw [hx]; rfl)
            have hcz : cl = List.replicate 4 0#8 := by rw [← hcl, hz0 c0 hz.1.1.1, hz0 c1 hz.1.1.2, hz0 c2 hz.1.2, hz0 c3 hz.2]; rfl
            have hTA : T = A := by rw [← hT, hcz]; exact Sp.plus_zero A kn 4 (by omega)
            have h1 : lo = l := by rw [← hlo, hTA, ← hA, List.take_left]
            have h2 : hi = E := by rw [← hhi, hTA, ← hA, List.drop_left]
            exact ⟨by rw [← her, h1, h2]; exact hEe, by rw [← hcc, h1, h2]; exact hEc⟩
          have hlaw1 : z = false → er = 10 ∧ cc = #[.int .u8 0, .int .i64 0, .int .u64 0, .int .u64 0, .int .i64 0, .int .i64 0] := by
            intro h0
            have hne : T ≠ A := by
              rw [← hT]
              refine Sp.plus_ne A kn cl (by omega) ?_
              intro h1
              rw [hcl4, ← hcl] at h1
              have e0 : c0 = 0#8 ∧ c1 = 0#8 ∧ c2 = 0#8 ∧ c3 = 0#8 := by simpa [List.replicate] using h1
              obtain ⟨e0, e1, e2, e3⟩ := e0
              rw [e0, e1, e2, e3] at hz
              rw [← hz] at h0
              exact absurd h0 (by decide)
            have h10 : er = 10 := by
              rw [← her, ← hlo, ← hhi]
              exact Sp.change_law (k := k) (s := s) (q := q) (p := p) (i := i) (n := n) l kn hkn (Sp.plus A kn cl) (by rw [Sp.plus_len _ _ _ (by omega), hcl4]) T (by rw [hE, hA]; exact hT) (by rw [hE, hA]; exact hne)
            exact ⟨h10, by rw [← hcc]; exact Sp.val_bad (her.trans h10) (by omega)⟩
          have hlol : lo.length ≤ 1000000 := by rw [← hlo]; have := HL.out; simp; omega
          have HN := Lib.hid hN; have HE := Lib.hid hE; have HE64 := Lib.hid hE64; have HEE := Lib.hid hEe; have HEC := Lib.hid hEc; have HA := Lib.hid hA; have HAL := Lib.hid hAl; have HT := Lib.hid hT; have HTL := Lib.hid hTl; have HLOE := Lib.hid hlo; have HHIE := Lib.hid hhi; have HER := Lib.hid her; have HCC := Lib.hid hcc; have HSZ := Lib.hid hsz; have HALL := Lib.hid hall; have HEQ := Lib.hid heq; have HLAW0 := Lib.hid hlaw0; have HLAW1 := Lib.hid hlaw1; have HLO := Lib.hid hlol; have HKN := Lib.hid hkn; have HCL := Lib.hid hcl; have HCL4 := Lib.hid hcl4; have HZ := Lib.hid hz
          clear hN hE hE64 hEe hEc hA hAl hT hTl hlo hhi her hcc hsz hall heq hlaw0 hlaw1 hlol hkn hcl hcl4 hz
          have hneq := sp_neq (uv k) s (uv q) (uv p) i n
          go_enter Try.func5, Try.ntmps5
          go_upto_region 1 with fail
          rw [← HW.out]
          go_upto_region 9 with (first
            | (refine wpList_load_row rfl 25 (.tmp 4) rfl w.heap.size rfl 25 _ (0, 0) _ S0.out Try.underlying25 rfl (by kernel_rfl) ?_)
            | (go_at_call 9; go_loud ((with_reducible refine (Encode5_ok k s q p i n _ l _ HVB.out V.out HL.out).mono ?_); rintro r w2 ⟨y, rfl, hy, hw⟩; rw [HE.out] at hy; obtain ⟨ay, cy, rfl⟩ := own_shape hy; have Y := Lib.hid (BytesV.of_own hy); have h64 : ((E.length : Int) != 64) = false := (by have := HE64.out; simp; omega); replace V := Lib.hid (V.out.below hw); replace S0 := Lib.hid (blk_below S0.out hw); replace A0 := Lib.hid (blk_below A0.out hw); replace B := Lib.hid (gr_tr B.out hw); clear hy hw))
            | (go_at_call 12; go_loud (refine (num5_any _ _).mono ?_; rintro r w' ⟨rfl, rfl⟩))
            | (go_at_call 15; go_loud ((with_reducible refine (Decode5_any _ _ E l _ 0 _ Y.out V.out HL.out HEC.out HEE.out).mono ?_); rintro r w3 ⟨rfl, hw⟩; replace V := Lib.hid (V.out.below hw); replace Y := Lib.hid (Y.out.below hw); replace S0 := Lib.hid (blk_below S0.out hw); replace A0 := Lib.hid (blk_below A0.out hw); replace B := Lib.hid (gr_tr B.out hw); clear hw))
            | (refine wpList_store_new rfl 25 (.tmp 11) (.tmp 46) rfl #[.int .u8 (uv k), .int .i64 s, .int .u64 (uv q), .int .u64 (uv p), .int .i64 i, .int .i64 n] 25 #[.int .u8 0, .int .i64 0, .int .u64 0, .int .u64 0, .int .i64 0, .int .i64 0] rfl rfl (by kernel_rfl) rfl (by simp [Value.oneCell']) ?_; intro w4 hr hw; have S4 := Lib.hid hr; replace V := Lib.hid (V.out.below hw); replace Y := Lib.hid (Y.out.below hw); replace S0 := Lib.hid (blk_below S0.out hw); replace A0 := Lib.hid (blk_below A0.out hw); replace B := Lib.hid (gr_tr B.out hw); clear hr hw)
            | (refine wpList_unguard (by rfl) (wpList_load_row rfl 25 (.tmp 11) rfl w3.heap.size rfl 25 _ (0, 0) _ S4.out Try.underlying25 rfl (by kernel_rfl) ?_))
            | (refine wpList_unguard (by rfl) (wpList_load_row rfl 25 (.tmp 4) rfl w.heap.size rfl 25 _ (0, 0) _ S0.out Try.underlying25 rfl (by kernel_rfl) ?_)))
          have V2 := Lib.hid V.out; have Y2 := Lib.hid Y.out; have B2 := Lib.hid B.out; have S2 := Lib.hid S0.out; have A2 := Lib.hid A0.out
          go_upto_region 11 with (first
            | (at_builtin; refine app_fresh rfl (.tmp 61) (.tmp 62) rfl _ rfl rfl _ l rfl V.out HL2.out ?_; intro x w5 hx hw; have X := Lib.hid hx; have D := Lib.hid hw; replace V := Lib.hid (V.out.below hw); replace Y := Lib.hid (Y.out.below hw); replace S0 := Lib.hid (blk_below S0.out hw); replace A0 := Lib.hid (blk_below A0.out hw); replace S4 := Lib.hid (blk_below S4.out hw); replace B := Lib.hid (gr_tr B.out hw); clear hw hx)
            | (at_builtin; refine app_more rfl (.tmp 63) (.tmp 64) rfl x w4.heap.size l.length l rfl X.out D.out.size _ E rfl Y.out (by have := HL2.out; have := HE64.out; have := HL.out; omega) ?_; intro x2 w6 hx hg hw2; rw [HA.out, HE64.out, HN.out] at hx; obtain ⟨gx, cx, rfl⟩ := own_pos hx (by have := HN.out; omega); have O := Lib.hid hx; have BX := Lib.hid (D.out.trans hw2); clear hx hg hw2))
          go_loopw [14] (fun i wr => ∃ m : Nat, m ≤ 4 ∧ i = .int .i64 m ∧ wr.ownsRow w4.heap.size 5 1 (.slice (some ⟨gx, 0, none⟩) N cx) N (by8 (Sp.lay A kn (Sp.plus A kn (cl.take m)))) ∧ Below w4.heap.size w4 wr) (fun i _ => 4 - (intOf i).toNat)
          case atStart => exact ⟨0, by omega, rfl, by rw [List.take_zero, show Sp.plus A kn [] = [] from List.zipWith_nil_right, Sp.lay_nil]; exact O.out, BX.out⟩
          case round =>
            obtain ⟨m, hm, rfl, hown, hbw⟩ := hrel
            have HO := Lib.hid hown; clear hown
            have HB := Lib.hid hbw; clear hbw
            have hNb : N ≤ 1000000 := by have := HN.out; omega
            have hkN : kn + 4 ≤ N := by have := HN.out; have := HKN.out; omega
            have hAN : A.length = N := by rw [HAL.out, HN.out]
            have HAN := Lib.hid hAN; clear hAN
            by_cases hlt : m < 4
            · obtain ⟨x, hx⟩ : ∃ x, A[kn + m]? = some x := ⟨_, List.getElem?_eq_getElem (by rw [HAN.out]; omega)⟩
              obtain ⟨y, hy⟩ : ∃ y, cl[m]? = some y := ⟨_, List.getElem?_eq_getElem (by rw [HCL4.out]; omega)⟩
              have HX := Lib.hid (Sp.plus_step A kn cl m x y hy hx (by rw [HCL4.out, HAN.out]; omega))
              have gx1 : wr.cell? ⟨gx, kn + m, none⟩ = some (.int .u8 (uv x)) := by
                rw [HO.out.cellAt (kn + m) (by omega), by8_get, Sp.plus_get A kn m cl x hx (by rw [HCL4.out]; omega) (by rw [HCL4.out, HAN.out]; omega)]; rfl
              have fx := HO.out.frozenAt (kn + m)
              have ga : wr.cell? ⟨w.heap.size + 1, m, none⟩ = some (.int .u8 (uv y)) := by
                rw [cell_of_row _ _ m _ _ _ (blk_below A2.out HB.out)]
                have : (#[.int .u8 (uv c0), .int .u8 (uv c1), .int .u8 (uv c2), .int .u8 (uv c3)] : Array Value) = (by8 cl).toArray := by rw [← HCL.out]; rfl
                rw [this, List.getElem?_toArray, by8_get, hy]; rfl
              have hw1 : IntKind.i64.wrap ((kn : Int) + (m : Int)) = (kn : Int) + (m : Int) := IntWalk.i64_in _ (by omega)
              have hw2 : 0 ≤ (kn : Int) + (m : Int) := by omega
              have hw3 : ((kn : Int) + (m : Int)).toNat = kn + m := by omega
              have hw4 : (kn : Int) + (m : Int) < (N : Int) := by omega
              clear hx hy
              go_upto_region 13 with fail
              go_still_tail 11, (by kernel_rfl)
              change wpList _ _ _ _ _ wr.drew
              have hgd := gr_drew wr
              have HOd := Lib.hid (own_below HO.out hgd); have HBd := Lib.hid (gr_tr HB.out hgd)
              have gx2 := below_get hgd gx1
              have fx2 := HOd.out.frozenAt (kn + m)
              generalize wr.drew = wd at *
              clear hgd gx1 fx ga hw1 hw2 hw3 hw4
              go_wp2
              go_roundw
              case rel => exact ⟨m + 1, by omega, by go_num, by rw [← HX.out, by8_set]; exact (HOd.out.stored (kn + m) _).1, HBd.out.grown (HOd.out.stored (kn + m) _).2 HBd.out.size (fun k hk => (HOd.out.lt k hk).1)⟩
              case measure => simp [intOf]; omega
            · obtain rfl : m = 4 := by omega
              have hown : wr.ownsRow w4.heap.size 5 1 (.slice (some ⟨gx, 0, none⟩) N cx) N (by8 T) := by
                have h1 := HO.out
                rw [List.take_of_length_le (by rw [HCL4.out]; omega), HT.out] at h1
                exact h1
              have hNT : N = T.length := by rw [HTL.out, HN.out]
              have hb := BytesV.of_own (l := T) (by rw [← hNT]; exact hown)
              obtain ⟨uhi, hhi, hrh⟩ := hb.cutl (P := Try.prog) (T := 26) Try.underlying26 bsz l.length (by rw [HTL.out]; omega)
              obtain ⟨ulo, hlo, -, hrl⟩ := hb.cut (P := Try.prog) (T := 26) Try.underlying26 bsz 0 l.length (by omega) (by rw [HTL.out]; omega)
              have hrl := hrl rfl
              rw [HHIE.out] at hhi
              rw [List.drop_zero, HLOE.out] at hlo
              obtain ⟨ah, nh, ch, rfl⟩ := bytes_shape hhi
              obtain ⟨al, nl, cl', rfl⟩ := bytes_shape hlo
              have HI := Lib.hid hhi; have LO := Lib.hid hlo
              have B := Lib.hid (gr_tr B2.out HB.out); have S := Lib.hid (blk_below S2.out HB.out); have AR := Lib.hid (blk_below A2.out HB.out)
              clear hb hhi hlo hown hNT hkN hNb
              go_upto_region 14 with fail
              go_cut [15, 16] (fun p e wx => e = .int .i64 er ∧ ∃ g, p = .pointer (some ⟨g, 0, none⟩) ∧ wx.heap[g]? = some (.cells cc 25 (0, 0)) ∧ Below wr.heap.size wr wx)
              case first =>
                refine wp_region_planT nowhere (.firm 0 (.firm 1 (.firm 2 (.firm 3 (.firm 4 (.firm 5 (.firm 6 (.firm 7 (.two 8 (.firm 9 (.firm 10 (.firm 11 (.one 12 (.one 13 (.firm 14 .done)))))) 12 (.one 8 (.firm 9 (.firm 10 (.firm 11 (.one 13 (.firm 14 .done)))))))))))))))
                  (by kernel_rfl) (by kernel_rfl) (by intro c a d v w h; cases d <;> exact h) ?_
                intro W1 K1 C1
                have HI1 := Lib.hid (HI.out.below C1.out); have LO1 := Lib.hid (LO.out.below C1.out)
                repeat (refine wpT_firm rfl (fun K hK => ?_); simp only [Keep]; go_simp; refine hK _ ?_; clear hK K)
                refine wpT_two rfl rfl ?_ ?_
                · go_wp2_with (go_at_call 15; go_loud (refine (Decode5_any _ _ hi lo cc er _ HI1.out LO1.out HLO.out HCC.out HER.out).mono ?_; rintro r w6 ⟨rfl, hw⟩; have K2 := Lib.hid (K1.out.below hw); have C2 := Lib.hid (gr_tr C1.out hw); clear hw))
                  refine ⟨K2.out, ?_⟩
                  repeat (refine wpT_firm rfl (fun K hK => ?_); simp only [Keep]; go_simp; refine hK _ ?_; clear hK K)
                  refine wpT_chain rfl ?_
                  go_wp2_with fail
                  refine ⟨K2.out.alloc _, ?_⟩
                  refine wpT_chain rfl ?_
                  refine wpList_store_new rfl 25 (.tmp 15) (.tmp 91) rfl cc 25 #[.int .u8 0, .int .i64 0, .int .u64 0, .int .u64 0, .int .i64 0, .int .i64 0] rfl rfl (by rw [HSZ.out]; kernel_rfl) HSZ.out.symm HALL.out ?_
                  intro w7 hr hw
                  have K3 := Lib.hid (K2.out.below hw); have C3 := Lib.hid (gr_tr C2.out hw); have R3 := Lib.hid hr; clear hr hw
                  go_wp2_with fail
                  refine ⟨K3.out, ?_⟩
                  repeat (refine wpT_firm rfl (fun K hK => ?_); simp only [Keep]; go_simp; refine hK _ ?_; clear hK K)
                  unfold wpT
                  go_wp2_with fail
                  go_meet
                  exact ⟨rfl, _, rfl, R3.out, C3.out⟩
                · go_wp2_with fail
                  refine ⟨K1.out.alloc _, ?_⟩
                  refine wpT_chain rfl ?_
                  have hz := heap_alloc_new W1 (.cells #[.int .u8 0, .int .i64 0, .int .u64 0, .int .u64 0, .int .i64 0, .int .i64 0] 25)
                  go_wp2_with (go_at_call 15; go_loud (refine (Decode5_any _ _ hi lo cc er _ (HI1.out.below (gr_alloc _ _)) (LO1.out.below (gr_alloc _ _)) HLO.out HCC.out HER.out).mono ?_; rintro r w6 ⟨rfl, hw⟩; have HZ := Lib.hid (blk_below hz hw); have K2 := Lib.hid ((K1.out.alloc _).below hw); have C2 := Lib.hid (gr_tr C1.out (gr_tr (gr_alloc _ _) hw)); clear hw hz))
                  refine ⟨K2.out, ?_⟩
                  repeat (refine wpT_firm rfl (fun K hK => ?_); simp only [Keep]; go_simp; refine hK _ ?_; clear hK K)
                  refine wpT_chain rfl ?_
                  refine wpList_store_row rfl 25 (.tmp 15) (.tmp 91) rfl W1.heap.size cc rfl rfl 25 #[.int .u8 0, .int .i64 0, .int .u64 0, .int .u64 0, .int .i64 0, .int .i64 0] HZ.out (by rw [HSZ.out]; kernel_rfl) HSZ.out.symm HALL.out ?_
                  have R3 := Lib.hid (setRow_heap _ _ _ cc _ _ HZ.out)
                  have hb := below_setRow C2.out C1.out.size cc
                  have K3 := Lib.hid (K2.out.base (below_setRow (Below.refl _ _) C1.out.size cc))
                  generalize w6.setRow W1.heap.size cc = w7 at hb K3 R3 ⊢
                  have C3 := Lib.hid hb; clear hb
                  go_wp2_with fail
                  refine ⟨K3.out, ?_⟩
                  repeat (refine wpT_firm rfl (fun K hK => ?_); simp only [Keep]; go_simp; refine hK _ ?_; clear hK K)
                  unfold wpT
                  go_wp2_with fail
                  go_meet
                  exact ⟨rfl, _, rfl, R3.out, C3.out⟩
              case rest =>
                obtain ⟨rfl, g, rfl, hr, hw⟩ := hcut
                obtain ⟨w8, hw8⟩ : ∃ x, x = wc := ⟨_, rfl⟩
                subst hw8
                replace B := Lib.hid (gr_tr B.out hw); replace S := Lib.hid (blk_below S.out hw); replace AR := Lib.hid (blk_below AR.out hw)
                have R := Lib.hid hr
                clear hw hr hneq
                have harr : ∀ w, (binOp .eql 40 (.agg #[.int .u8 (uv c0), .int .u8 (uv c1), .int .u8 (uv c2), .int .u8 (uv c3)]) (.agg #[.int .u8 0, .int .u8 0, .int .u8 0, .int .u8 0])).run Try.prog w = .ok (.bool z) w := fun w => by rw [arr4_eql, HZ.out]
                cases z
                · obtain ⟨he, hc⟩ := HLAW1.out rfl
                  subst he hc
                  have heq0 := sp_eql 0 0 0 0 0 0
                  go_wp2_with (first
                    | (refine wpList_load_row rfl 40 (.tmp 7) rfl (w.heap.size + 1) rfl 40 _ (0, 0) _ AR.out Try.underlying40 rfl (by kernel_rfl) ?_)
                    | (refine wpList_unguard (by rfl) (wpList_load_row rfl 25 (.tmp 15) rfl g rfl 25 _ (0, 0) _ R.out Try.underlying25 rfl (by kernel_rfl) ?_))
                    | (go_at_call 8; go_loud ((with_reducible refine (works5_any _).mono ?_); rintro r w9 ⟨rfl, hw⟩; replace B := Lib.hid (gr_tr B.out hw); clear hw)))
                  go_ret
                  exact ⟨rfl, B.out⟩
                · obtain ⟨he, hc⟩ := HLAW0.out rfl
                  subst he hc
                  have heq0 := sp_eql (uv k) s (uv q) (uv p) i n
                  go_wp2_with (first
                    | (refine wpList_load_row rfl 40 (.tmp 7) rfl (w.heap.size + 1) rfl 40 _ (0, 0) _ AR.out Try.underlying40 rfl (by kernel_rfl) ?_)
                    | (go_at_call 12; go_loud (refine (num5_any _ _).mono ?_; rintro r w' ⟨rfl, rfl⟩))
                    | (refine wpList_unguard (by rfl) (wpList_load_row rfl 25 (.tmp 15) rfl g rfl 25 _ (0, 0) _ R.out Try.underlying25 rfl (by kernel_rfl) ?_))
                    | (refine wpList_unguard (by rfl) (wpList_load_row rfl 25 (.tmp 4) rfl w.heap.size rfl 25 _ (0, 0) _ S.out Try.underlying25 rfl (by kernel_rfl) ?_))
                    | (go_at_call 8; go_loud ((with_reducible refine (works5_any _).mono ?_); rintro r w9 ⟨rfl, hw⟩; replace B := Lib.hid (gr_tr B.out hw); clear hw)))
                  go_ret
                  exact ⟨rfl, B.out⟩
  · have hd : decide ((l.length : Int) > 300) = true := by simp; omega
    clear h300 hK
    have hx := hd
    go_enter Try.func5, Try.ntmps5
    go_upto_region 1 with fail
    rw [← HW.out]
    go_wp2_with (go_at_call 8; go_loud ((with_reducible refine (works5_any _).mono ?_); rintro r w9 ⟨rfl, hw⟩; replace B := Lib.hid (gr_tr B.out hw); clear hw))
    go_ret
    exact ⟨rfl, B.out⟩
end Go.Proofs.Yteicmbapipnbjaa
