/- Descriptions of pages: the reference's Raw and Encode. -/
import Derived.Test.YteicmbapipnbjaaSpareE
namespace Go.Proofs.Yteicmbapipnbjaa
open Go.RowKit
set_option linter.unusedVariables false
set_option linter.unusedSimpArgs false
namespace Sp
def z0 (k : BitVec 8) : List (BitVec 8) := [67#8, 70#8, 84#8, 76#8, k] ++ List.replicate 59 0#8
def raw (k : BitVec 8) (A B C D E : List (BitVec 8)) : List (BitVec 8) := lay (lay (lay (lay (lay (z0 k) 8 A) 16 B) 24 C) 28 D) 32 E
theorem le_one (k : BitVec 8) : Wire.le (k.setWidth 64) 1 = [k] := by
  have e : Wire.le (k.setWidth 64) 1 = [((k.setWidth 64) >>> (8 * 0)).setWidth 8] := rfl
  rw [e]; congr 1
  apply BitVec.eq_of_toNat_eq
  simp
theorem le_magic : Wire.le magic 4 = [67#8, 70#8, 84#8, 76#8] := by decide
theorem le_three : Wire.le 0#64 3 = [0#8, 0#8, 0#8] := by decide
theorem raw_body (k : BitVec 8) (s : Int) (q p : BitVec 64) (i n : Int) : (raw k (Wire.le q 8) (Wire.le p 8) (Wire.le (BitVec.ofInt 64 s) 4) (Wire.le (BitVec.ofInt 64 i) 4) (Wire.le (BitVec.ofInt 64 n) 4)).take 60 = body k s q p i n := by
  unfold body head
  rw [le_magic, le_one, le_three]
  obtain ⟨a0, a1, a2, a3, a4, a5, a6, a7, ha⟩ : ∃ a0 a1 a2 a3 a4 a5 a6 a7, Wire.le q 8 = [a0, a1, a2, a3, a4, a5, a6, a7] := ⟨_, _, _, _, _, _, _, _, rfl⟩
  obtain ⟨b0, b1, b2, b3, b4, b5, b6, b7, hb⟩ : ∃ a0 a1 a2 a3 a4 a5 a6 a7, Wire.le p 8 = [a0, a1, a2, a3, a4, a5, a6, a7] := ⟨_, _, _, _, _, _, _, _, rfl⟩
  obtain ⟨c0, c1, c2, c3, hc⟩ : ∃ a0 a1 a2 a3, Wire.le (BitVec.ofInt 64 s) 4 = [a0, a1, a2, a3] := ⟨_, _, _, _, rfl⟩
  obtain ⟨d0, d1, d2, d3, hd⟩ : ∃ a0 a1 a2 a3, Wire.le (BitVec.ofInt 64 i) 4 = [a0, a1, a2, a3] := ⟨_, _, _, _, rfl⟩
  obtain ⟨e0, e1, e2, e3, he⟩ : ∃ a0 a1 a2 a3, Wire.le (BitVec.ofInt 64 n) 4 = [a0, a1, a2, a3] := ⟨_, _, _, _, rfl⟩
  rw [ha, hb, hc, hd, he]
  rfl
theorem sumOf_take (d l m : List (BitVec 8)) (h : l.take 60 = m) : sumOf d l = sumOf d m := by
  subst h; unfold sumOf; rw [List.take_take]; simp
theorem raw_enc (k : BitVec 8) (s : Int) (q p : BitVec 64) (i n : Int) (d z : List (BitVec 8)) (hz : raw k (Wire.le q 8) (Wire.le p 8) (Wire.le (BitVec.ofInt 64 s) 4) (Wire.le (BitVec.ofInt 64 i) 4) (Wire.le (BitVec.ofInt 64 n) 4) = z) :
    z.take 60 ++ Wire.le (sumOf d z) 4 = enc k s q p i n d := by
  have h : z.take 60 = body k s q p i n := by rw [← hz]; exact raw_body ..
  rw [sumOf_take d z _ h, h]; rfl
end Sp
theorem put5_at (u : Value) (base : Nat) (l l' : List (BitVec 8)) (L p n : Nat) (P N : Int) (v : BitVec 64) (w : World) (hu : w.ownsRow base 5 1 u L (by8 l)) (hP : P = p) (hN : N = n) (hL : l.length = L) (hn : n ≤ 8) (hp : p + n ≤ L) (hs : L ≤ 1000000) (hl' : Sp.lay l p (Wire.le v n) = l') :
    Calls Try.prog 34 #[u, .int .i64 P, .int .i64 N, .int .u64 (uv v)] w fun e w' => e = .returned (.tuple #[]) ∧ w'.ownsRow base 5 1 u L (by8 l') ∧ w.grownBy w' u.ownBlock := by
  subst hL hl' hP hN; exact put5_any u base l p n v w hu hn hp hs
theorem grown_new {w0 w w' : World} {base g : Nat} (hb : Below base w0 w) (hg : w.grownBy w' (some g)) (h : base ≤ g) (hs : base ≤ w.heap.size) : Below base w0 w' := hb.grown hg hs (fun k hk => by injection hk with hk; omega)
theorem BytesV.lit (w : World) (cs : Array Value) (t : TypeId) (l : List (BitVec 8)) (n : Nat) (hn : n = l.length) (hm : n ≤ 9223372036854775807) (hcs : cs.toList = by8 l) : BytesV (w.alloc (.cells cs t)) (.slice (some ⟨w.heap.size, 0, none⟩) n n) l := by
  subst hn
  exact ⟨_, _, rfl, by simp, Nat.le_refl _, hm, by rw [← hcs]; exact Row.lit _ _ _ _⟩
set_option maxRecDepth 4000 in
set_option maxHeartbeats 1600000 in
theorem Raw_any (k : BitVec 8) (s : Int) (q p : BitVec 64) (i n : Int) (v : Value) (d : List (BitVec 8)) (w : World) (hv : BytesV w v d) (hs : d.length ≤ 1000000) :
    Calls Try.prog 24 #[.agg #[.int .u8 (uv k), .int .i64 s, .int .u64 (uv q), .int .u64 (uv p), .int .i64 i, .int .i64 n], v] w fun e w' => ∃ x, e = .returned x ∧ w'.ownsRow w.heap.size 5 1 x (Sp.enc k s q p i n d).length (by8 (Sp.enc k s q p i n d)) ∧ Below w.heap.size w w' := by
  obtain ⟨z0, hz0⟩ : ∃ z, Sp.z0 k = z := ⟨_, rfl⟩
  obtain ⟨z1, hz1⟩ : ∃ z, Sp.lay z0 8 (Wire.le q 8) = z := ⟨_, rfl⟩
  obtain ⟨z2, hz2⟩ : ∃ z, Sp.lay z1 16 (Wire.le p 8) = z := ⟨_, rfl⟩
  obtain ⟨z3, hz3⟩ : ∃ z, Sp.lay z2 24 (Wire.le (BitVec.ofInt 64 s) 4) = z := ⟨_, rfl⟩
  obtain ⟨z4, hz4⟩ : ∃ z, Sp.lay z3 28 (Wire.le (BitVec.ofInt 64 i) 4) = z := ⟨_, rfl⟩
  obtain ⟨z5, hz5⟩ : ∃ z, Sp.lay z4 32 (Wire.le (BitVec.ofInt 64 n) 4) = z := ⟨_, rfl⟩
  have l0 : z0.length = 64 := by rw [← hz0]; rfl
  have l1 : z1.length = 64 := by rw [← hz1, Sp.lay_len _ _ _ (by rw [Wire.le_len]; omega)]; exact l0
  have l2 : z2.length = 64 := by rw [← hz2, Sp.lay_len _ _ _ (by rw [Wire.le_len]; omega)]; exact l1
  have l3 : z3.length = 64 := by rw [← hz3, Sp.lay_len _ _ _ (by rw [Wire.le_len]; omega)]; exact l2
  have l4 : z4.length = 64 := by rw [← hz4, Sp.lay_len _ _ _ (by rw [Wire.le_len]; omega)]; exact l3
  have l5 : z5.length = 64 := by rw [← hz5, Sp.lay_len _ _ _ (by rw [Wire.le_len]; omega)]; exact l4
  have hen := Sp.raw_enc k s q p i n d z5 (by rw [← hz5, ← hz4, ← hz3, ← hz2, ← hz1, ← hz0]; rfl)
  have hel := Sp.enc_len k s q p i n d
  obtain ⟨en, hen'⟩ : ∃ en, Sp.enc k s q p i n d = en := ⟨_, rfl⟩
  rw [hen'] at hen hel ⊢
  rw [hel]
  have hcp : (List.replicate 64 0#8).take 0 ++ ([67#8, 70#8, 84#8, 76#8, k] ++ (List.replicate 64 0#8).drop (0 + [67#8, 70#8, 84#8, 76#8, k].length)) = z0 := by rw [← hz0]; rfl
  have HCP := Lib.hid hcp; have Z1 := Lib.hid hz1; have Z2 := Lib.hid hz2; have Z3 := Lib.hid hz3; have Z4 := Lib.hid hz4; have Z5 := Lib.hid hz5; have HEN := Lib.hid hen
  have L0 := Lib.hid l0; have L1 := Lib.hid l1; have L2 := Lib.hid l2; have L3 := Lib.hid l3; have L4 := Lib.hid l4; have L5 := Lib.hid l5
  obtain ⟨av, nv', cv, rfl⟩ : ∃ a n c, v = .slice a n c := by obtain ⟨a, c, rfl, _⟩ := hv; exact ⟨_, _, _, rfl⟩
  have HS := Lib.hid hs
  clear hcp hz0 hz1 hz2 hz3 hz4 hz5 hen l0 l1 l2 l3 l4 l5 hs hen' hel
  obtain ⟨W, hW⟩ : ∃ W, W = (w.alloc (.cells #[.int .u8 (uv k), .int .i64 s, .int .u64 (uv q), .int .u64 (uv p), .int .i64 i, .int .i64 n] 25)) := ⟨_, rfl⟩
  have hbw : Below w.heap.size w W := by subst hW; exact gr_alloc _ _
  have d0 : W.cell? ⟨w.heap.size, 0, none⟩ = some (.int .u8 (uv k)) := by subst hW; simp [go_sem]
  have d1 : W.cell? ⟨w.heap.size, 1, none⟩ = some (.int .i64 s) := by subst hW; simp [go_sem]
  have d2 : W.cell? ⟨w.heap.size, 2, none⟩ = some (.int .u64 (uv q)) := by subst hW; simp [go_sem]
  have d3 : W.cell? ⟨w.heap.size, 3, none⟩ = some (.int .u64 (uv p)) := by subst hW; simp [go_sem]
  have d4 : W.cell? ⟨w.heap.size, 4, none⟩ = some (.int .i64 i) := by subst hW; simp [go_sem]
  have d5 : W.cell? ⟨w.heap.size, 5, none⟩ = some (.int .i64 n) := by subst hW; simp [go_sem]
  have V := Lib.hid (hv.below hbw)
  have D1 := Lib.hid d1; have D2 := Lib.hid d2; have D3 := Lib.hid d3; have D4 := Lib.hid d4; have D5 := Lib.hid d5
  have B := Lib.hid hbw; have HW := Lib.hid hW
  clear hbw hW hv d1 d2 d3 d4 d5
  go_enter Try.func24, Try.ntmps24
  go_upto_region 1 with fail
  rw [← HW.out]
  go_wp2_with (first
    | (refine make_law bytesOk rfl _ _ rfl W.heap.size .i64 .i64 (64 : Int) (64 : Int) 64 rfl rfl rfl rfl (by omega) (by omega) (Nat.le_refl _) ?_; intro w1 hown hgrow; rw [by8_made] at hown; have hb1 := (Below.refl W.heap.size W).grown hgrow (Nat.le_refl _) (by intro k hk; cases hk); have d0' : w1.cell? ⟨w.heap.size, 0, none⟩ = some (.int .u8 (uv k)) := below_get hb1 d0; have O1 := Lib.hid hown; have B1 := Lib.hid hb1; clear hown hgrow hb1 d0)
    | (with_reducible refine copy_into rfl (.tmp 7) (.tmp 10) rfl W.heap.size W.heap.size 64 64 0 (List.replicate 64 0#8) [67#8, 70#8, 84#8, 76#8, k] rfl _ rfl (own_below O1.out (gr_alloc _ _)) (BytesV.lit _ _ _ _ 5 rfl (by omega) rfl) (by simp) (by simp) ?_; intro w2 hown hgr _; rw [HCP.out] at hown; have hb2 := grown_new (B1.out.trans ((gr_alloc _ _).mono B1.out.size)) hgr (Nat.le_refl _) (Nat.le_trans B1.out.size (gr_alloc _ _).size); have d2 : w2.cell? ⟨w.heap.size, 2, none⟩ = some (.int .u64 (uv q)) := below_get hb2 D2.out; have O2 := Lib.hid hown; have B2 := Lib.hid hb2; clear hown hgr hb2 d0')
    | (go_at_call 34; with_reducible refine (put5_at _ W.heap.size z0 z1 64 8 8 8 8 q _ O2.out rfl rfl L0.out (by omega) (by omega) (by omega) Z1.out).mono ?_; rintro r w3 ⟨rfl, hown, hgr⟩; have hb3 := grown_new B2.out hgr (Nat.le_refl _) B2.out.size; have d3 : w3.cell? ⟨w.heap.size, 3, none⟩ = some (.int .u64 (uv p)) := below_get hb3 D3.out; have O3 := Lib.hid hown; have B3 := Lib.hid hb3; clear hown hgr hb3 d2)
    | (go_at_call 34; with_reducible refine (put5_at _ W.heap.size z1 z2 64 16 8 16 8 p _ O3.out rfl rfl L1.out (by omega) (by omega) (by omega) Z2.out).mono ?_; rintro r w4 ⟨rfl, hown, hgr⟩; have hb4 := grown_new B3.out hgr (Nat.le_refl _) B3.out.size; have d1 : w4.cell? ⟨w.heap.size, 1, none⟩ = some (.int .i64 s) := below_get hb4 D1.out; have O4 := Lib.hid hown; have B4 := Lib.hid hb4; clear hown hgr hb4 d3)
    | (go_at_call 34; with_reducible refine (put5_at _ W.heap.size z2 z3 64 24 4 24 4 (BitVec.ofInt 64 s) _ O4.out rfl rfl L2.out (by omega) (by omega) (by omega) Z3.out).mono ?_; rintro r w5 ⟨rfl, hown, hgr⟩; have hb5 := grown_new B4.out hgr (Nat.le_refl _) B4.out.size; have d4 : w5.cell? ⟨w.heap.size, 4, none⟩ = some (.int .i64 i) := below_get hb5 D4.out; have O5 := Lib.hid hown; have B5 := Lib.hid hb5; clear hown hgr hb5 d1)
    | (go_at_call 34; with_reducible refine (put5_at _ W.heap.size z3 z4 64 28 4 28 4 (BitVec.ofInt 64 i) _ O5.out rfl rfl L3.out (by omega) (by omega) (by omega) Z4.out).mono ?_; rintro r w6 ⟨rfl, hown, hgr⟩; have hb6 := grown_new B5.out hgr (Nat.le_refl _) B5.out.size; have d5 : w6.cell? ⟨w.heap.size, 5, none⟩ = some (.int .i64 n) := below_get hb6 D5.out; have O6 := Lib.hid hown; have B6 := Lib.hid hb6; clear hown hgr hb6 d4)
    | (go_at_call 34; with_reducible refine (put5_at _ W.heap.size z4 z5 64 32 4 32 4 (BitVec.ofInt 64 n) _ O6.out rfl rfl L4.out (by omega) (by omega) (by omega) Z5.out).mono ?_; rintro r w7 ⟨rfl, hown, hgr⟩; have hb7 := grown_new B6.out hgr (Nat.le_refl _) B6.out.size; have O7 := Lib.hid hown; have B7 := Lib.hid hb7; clear hown hgr hb7 d5)
    | (go_at_call 16; with_reducible refine (Seal_own _ _ W.heap.size z5 d _ _ (by rw [L5.out]; exact O7.out) L5.out (V.out.below B7.out) HS.out rfl).mono ?_; rintro r w8 ⟨rfl, hown, hc⟩; rw [HEN.out, L5.out] at hown; have O8 := Lib.hid (own_base hown B.out.size); have B8 := Lib.hid (Chg.new hc (gr_tr B.out B7.out) (fun j hj => by simp [Value.ownBlock] at hj; subst hj; exact B.out.size)); clear hown hc))
  go_ret
  exact ⟨_, rfl, O8.out, B8.out⟩
theorem rEncode5_no (k : BitVec 8) (s : Int) (q p : BitVec 64) (i n : Int) (v : Value) (w : World) (h : Sp.valid k s q p i n = false) :
    Calls Try.prog 10 #[.agg #[.int .u8 (uv k), .int .i64 s, .int .u64 (uv q), .int .u64 (uv p), .int .i64 i, .int .i64 n], v] w fun e w' => e = .returned (.tuple #[.slice none 0 0, .int .i64 2]) ∧ Below w.heap.size w w' := by
  have H := Lib.hid h; clear h
  go_enter Try.func10, Try.ntmps10
  go_wp2_with (go_at_call 14; refine (rValid5_any k s q p i n false _ H.out).mono ?_; rintro e w1 ⟨rfl, hw1⟩; have B1 := Lib.hid (gr_tr (gr_alloc _ _) hw1); clear hw1)
  go_ret2
  exact ⟨rfl, B1.out⟩
theorem rEncode5_ok (k : BitVec 8) (s : Int) (q p : BitVec 64) (i n : Int) (v : Value) (d : List (BitVec 8)) (w : World) (h : Sp.valid k s q p i n = true) (hv : BytesV w v d) (hs : d.length ≤ 1000000) :
    Calls Try.prog 10 #[.agg #[.int .u8 (uv k), .int .i64 s, .int .u64 (uv q), .int .u64 (uv p), .int .i64 i, .int .i64 n], v] w fun e w' => ∃ x, e = .returned (.tuple #[x, .int .i64 0]) ∧ w'.ownsRow w.heap.size 5 1 x (Sp.enc k s q p i n d).length (by8 (Sp.enc k s q p i n d)) ∧ Below w.heap.size w w' := by
  have H := Lib.hid h; have V := Lib.hid hv; have HS := Lib.hid hs; clear h hv hs
  go_enter Try.func10, Try.ntmps10
  go_wp2_with (first
    | (go_at_call 14; refine (rValid5_any k s q p i n true _ H.out).mono ?_; rintro e w1 ⟨rfl, hw1⟩; have d0 : w1.cell? ⟨w.heap.size, 0, none⟩ = some (.int .u8 (uv k)) := below_get hw1 (by simp [go_sem]); have d1 : w1.cell? ⟨w.heap.size, 1, none⟩ = some (.int .i64 s) := below_get hw1 (by simp [go_sem]); have d2 : w1.cell? ⟨w.heap.size, 2, none⟩ = some (.int .u64 (uv q)) := below_get hw1 (by simp [go_sem]); have d3 : w1.cell? ⟨w.heap.size, 3, none⟩ = some (.int .u64 (uv p)) := below_get hw1 (by simp [go_sem]); have d4 : w1.cell? ⟨w.heap.size, 4, none⟩ = some (.int .i64 i) := below_get hw1 (by simp [go_sem]); have d5 : w1.cell? ⟨w.heap.size, 5, none⟩ = some (.int .i64 n) := below_get hw1 (by simp [go_sem]); have B1 := Lib.hid (gr_tr (gr_alloc _ _) hw1); clear hw1)
    | (go_at_call 24; go_loud (refine (Raw_any k s q p i n _ d _ (V.out.below B1.out) HS.out).mono ?_); rintro e w2 ⟨x, rfl, hown, hb2⟩; have O2 := Lib.hid (own_base hown B1.out.size); have B2 := Lib.hid (gr_tr B1.out hb2); clear hown hb2))
  go_ret2
  exact ⟨_, rfl, O2.out, B2.out⟩
end Go.Proofs.Yteicmbapipnbjaa
