/- The walks of package protect: joined, Encode, Decode. -/
import Derived.Test.YtpobkgkjfebhgaaProtB
namespace Go.Proofs.Ytpobkgkjfebhgaa
open Go.RowKit
set_option linter.unusedVariables false
set_option linter.unusedSimpArgs false

theorem BytesV.shape {w : World} {u : Value} {l : List (BitVec 8)} (h : BytesV w u l) : ∃ a n c, u = .slice a n c := by
  obtain ⟨a, c, rfl, _⟩ := h; exact ⟨_, _, _, rfl⟩
theorem PartsV.lit {w : World} (cs : Array Value) (ty : TypeId) (fr : Nat × Nat) (ls : List (List (BitVec 8))) (n : Nat) (hn : n = ls.length) (hl : cs.size = n) (hm : n ≤ 9223372036854775807) (h : ∀ (i : Nat) (l : List (BitVec 8)), ls[i]? = some l → ∃ u, cs[i]? = some u ∧ BytesV w u l) :
    PartsV (w.alloc (.cells cs ty fr)) (.slice (some ⟨w.heap.size, 0, none⟩) n n) ls := by
  subst hn
  refine ⟨_, _, cs.toList, rfl, by simp, Nat.le_refl _, hm, Row.lit _ _ _ _, by simpa using hl, fun i l hi => ?_⟩
  obtain ⟨u, hu, hb⟩ := h i l hi
  exact ⟨u, by simpa using hu, hb.below (gr_alloc _ _)⟩
theorem lits2 {w : World} {u1 u2 : Value} {l1 l2 : List (BitVec 8)} (h1 : BytesV w u1 l1) (h2 : BytesV w u2 l2) : ∀ (i : Nat) (l : List (BitVec 8)), [l1, l2][i]? = some l → ∃ u, #[u1, u2][i]? = some u ∧ BytesV w u l := by
  intro i l h
  match i, h with
  | 0, h => simp at h; subst h; exact ⟨_, rfl, h1⟩
  | 1, h => simp at h; subst h; exact ⟨_, rfl, h2⟩
theorem lits3 {w : World} {u1 u2 u3 : Value} {l1 l2 l3 : List (BitVec 8)} (h1 : BytesV w u1 l1) (h2 : BytesV w u2 l2) (h3 : BytesV w u3 l3) : ∀ (i : Nat) (l : List (BitVec 8)), [l1, l2, l3][i]? = some l → ∃ u, #[u1, u2, u3][i]? = some u ∧ BytesV w u l := by
  intro i l h
  match i, h with
  | 0, h => simp at h; subst h; exact ⟨_, rfl, h1⟩
  | 1, h => simp at h; subst h; exact ⟨_, rfl, h2⟩
  | 2, h => simp at h; subst h; exact ⟨_, rfl, h3⟩
theorem joined_any (v : Value) (ls : List (List (BitVec 8))) (w : World) (hv : PartsV w v ls) (hs : ls.flatten.length ≤ 140737488355328) :
    Calls Try.prog 25 #[v] w fun e w' => ∃ u, e = .returned u ∧ BytesV w' u ls.flatten ∧ Below w.heap.size w w' := by
  go_enter Try.func25, Try.ntmps25
  go_wp2_with fail
  refine (Concat_any v ls _ hv hs).mono ?_
  rintro e w1 ⟨u, rfl, hown, hb⟩
  have HO := Lib.hid hown; clear hown
  go_wp2_with fail
  go_ret
  exact ⟨_, rfl, BytesV.of_own HO.out, hb⟩

namespace Prot
/-- The bytes of a tuple. -/
def bytes (g a : BitVec 16) (r : BitVec 32) : List (BitVec 8) := be (g.setWidth 64) 2 ++ be (a.setWidth 64) 2 ++ be (r.setWidth 64) 4
theorem be_len (v : BitVec 64) (n : Nat) : (be v n).length = n := by simp [be, Wire.le_len]
theorem bytes_len (g a : BitVec 16) (r : BitVec 32) : (bytes g a r).length = 8 := by simp [bytes, be_len]
theorem high16 (g : BitVec 16) : g.setWidth 64 >>> (8 * 2) = 0#64 := by
  apply BitVec.eq_of_getLsbD_eq
  intro i hi
  rw [BitVec.getLsbD_ushiftRight, BitVec.getLsbD_setWidth, BitVec.getLsbD_of_ge g _ (by omega)]; simp
theorem high32 (g : BitVec 32) : g.setWidth 64 >>> (8 * 4) = 0#64 := by
  apply BitVec.eq_of_getLsbD_eq
  intro i hi
  rw [BitVec.getLsbD_ushiftRight, BitVec.getLsbD_setWidth, BitVec.getLsbD_of_ge g _ (by omega)]; simp
end Prot
theorem high_at (v : BitVec 64) (n : Int) (k : Nat) (w : World) (hn : n = k) (h1 : 1 ≤ k) (h2 : k ≤ 8) (h : v >>> (8 * k) = 0#64) :
    Calls Try.prog 27 #[.int .u64 (uv v), .int .i64 n] w fun e w' => ∃ u, e = .returned u ∧ BytesV w' u (Prot.be v k) ∧ Below w.heap.size w w' := by
  subst hn; exact high_any v k w h1 h2 (fun _ => h)

theorem Row.src {w : World} {a : Option Addr} {vs : List Value} (h : Row w a vs) (hne : vs ≠ []) : ∃ ad, a = some ad ∧ ∀ (j : Nat) v, vs[j]? = some v → w.cell? (ad.add j) = some v := by
  rcases h with h | ⟨b, o, e, h⟩
  · exact absurd h hne
  · refine ⟨_, e, fun j v hj => ?_⟩
    have hl : j < vs.length := by
      rcases Nat.lt_or_ge j vs.length with h | h
      · exact h
      · rw [List.getElem?_eq_none h] at hj; exact absurd hj (by simp)
    rw [Addr.add_lit]; exact (h j hl).trans hj
theorem keep_of_below {w x : World} {b : Nat} (h : Below b w x) (hs : w.heap.size = b + 1) : Keep (fun k => k = b) w x :=
  ⟨⟨x, h.size, fun k hk hn => h.block k (by have : ¬ k = b := hn; omega)⟩, rfl⟩
def z8 : List Value := [.int .u8 0, .int .u8 0, .int .u8 0, .int .u8 0, .int .u8 0, .int .u8 0, .int .u8 0, .int .u8 0]
theorem splice_all {α : Type} (L cs : List α) (h : cs.length = L.length) : splice L 0 cs = cs := by simp [splice, h]
set_option maxHeartbeats 400000 in
theorem Encode_any (g a : BitVec 16) (r : BitVec 32) (w : World) :
    Calls Try.prog 12 #[.agg #[.int .u16 (uv g), .int .u16 (uv a), .int .u32 (uv r)]] w fun e w' => e = .returned (.agg (by8 (Prot.bytes g a r)).toArray) ∧ Below w.heap.size w w' := by
  obtain ⟨W, hW⟩ : ∃ W, W = (w.alloc (.cells #[.int .u16 (uv g), .int .u16 (uv a), .int .u32 (uv r)] 40)).alloc (.cells #[.int .u8 0, .int .u8 0, .int .u8 0, .int .u8 0, .int .u8 0, .int .u8 0, .int .u8 0, .int .u8 0] 51) := ⟨_, rfl⟩
  have hsz : W.heap.size = w.heap.size + 2 := by subst hW; simp
  have hbW : Below w.heap.size w W := by subst hW; exact gr_tr (gr_alloc _ _) (gr_alloc _ _)
  have hWb : W.heap[w.heap.size + 1]? = some (.cells z8.toArray 51 (0, 0)) := by subst hW; exact heap_alloc2_new _ _ _
  have d0 : W.cell? ⟨w.heap.size, 0, none⟩ = some (.int .u16 (uv g)) := by subst hW; simp [go_sem]
  have d1 : W.cell? ⟨w.heap.size, 1, none⟩ = some (.int .u16 (uv a)) := by subst hW; simp [go_sem]
  have d2 : W.cell? ⟨w.heap.size, 2, none⟩ = some (.int .u32 (uv r)) := by subst hW; simp [go_sem]
  have c0 : ∀ y : KeepT (fun k => k = w.heap.size + 1) W, y.val.cell? ⟨w.heap.size, 0, none⟩ = some (.int .u16 (uv g)) := fun y => y.cell d0 (by omega)
  have c1 : ∀ y : KeepT (fun k => k = w.heap.size + 1) W, y.val.cell? ⟨w.heap.size, 1, none⟩ = some (.int .u16 (uv a)) := fun y => y.cell d1 (by omega)
  have c2 : ∀ y : KeepT (fun k => k = w.heap.size + 1) W, y.val.cell? ⟨w.heap.size, 2, none⟩ = some (.int .u32 (uv r)) := fun y => y.cell d2 (by omega)
  clear d0 d1 d2
  have HSZ := Lib.hid hsz; clear hsz
  have HBW := Lib.hid hbW; clear hbW
  have HWB := Lib.hid hWb; clear hWb
  have HW := Lib.hid hW; clear hW
  go_enter Try.func12, Try.ntmps12
  go_wp2_with fail
  rw [← HW.out]
  refine wp_region_plan (Keep (fun k => k = w.heap.size + 1) W) [(true, 0), (true, 1), (true, 2), (true, 3), (true, 5), (true, 6), (true, 7), (true, 9), (true, 10), (true, 11), (false, 4), (false, 8), (false, 12), (false, 13), (false, 14), (false, 15)]
    (by kernel_rfl) (by kernel_rfl) (by intro c a d v w h; cases d <;> exact h) (Keep.start _ _) ?_
  repeat (refine wpS_firm rfl (fun K hK => ?_); simp only [Keep]; go_simp; refine hK _ ?_; clear hK K)
  refine wpS_chain rfl ?_
  go_wp2_with (go_at_call 27; refine (high_at _ _ 2 _ rfl (by omega) (by omega) (Prot.high16 g)).mono ?_; rintro e w1 ⟨u1, rfl, hu1, h1⟩)
  have K1 := Lib.hid ((Keep.start (fun k => k = w.heap.size + 1) W).below h1)
  have B1 := Lib.hid (gr_tr (gr_drew W) h1); clear h1
  have U1 := Lib.hid hu1; clear hu1
  refine ⟨K1.out, ?_⟩
  refine wpS_chain rfl ?_
  go_wp2_with (go_at_call 27; refine (high_at _ _ 2 _ rfl (by omega) (by omega) (Prot.high16 a)).mono ?_; rintro e w2 ⟨u2, rfl, hu2, h1⟩)
  have K2 := Lib.hid (K1.out.below h1)
  have B2 := Lib.hid h1; clear h1
  have U2 := Lib.hid hu2; clear hu2
  refine ⟨K2.out, ?_⟩
  refine wpS_chain rfl ?_
  go_wp2_with (go_at_call 27; refine (high_at _ _ 4 _ rfl (by omega) (by omega) (Prot.high32 r)).mono ?_; rintro e w3 ⟨u3, rfl, hu3, h1⟩)
  have K3 := Lib.hid (K2.out.below h1)
  have B3 := Lib.hid h1; clear h1
  have U3 := Lib.hid hu3; clear hu3
  refine ⟨K3.out, ?_⟩
  obtain ⟨a1, n1, k1, rfl⟩ := U1.out.shape
  obtain ⟨a2, n2, k2, rfl⟩ := U2.out.shape
  obtain ⟨a3, n3, k3, rfl⟩ := U3.out.shape
  refine wpS_chain rfl ?_
  go_wp2_with fail
  refine ⟨K3.out.alloc _, ?_⟩
  refine wpS_chain rfl ?_
  have hp := PartsV.lit (w := w3) #[.slice a1 n1 k1, .slice a2 n2 k2, .slice a3 n3 k3] 46 (0, 0) [Prot.be (g.setWidth 64) 2, Prot.be (a.setWidth 64) 2, Prot.be (r.setWidth 64) 4] 3 rfl rfl (by omega) (lits3 ((U1.out.below B2.out).below B3.out) (U2.out.below B3.out) U3.out)
  have HP := Lib.hid hp; clear hp
  have hfl : [Prot.be (g.setWidth 64) 2, Prot.be (a.setWidth 64) 2, Prot.be (r.setWidth 64) 4].flatten = Prot.bytes g a r := by simp [Prot.bytes]
  have HFL := Lib.hid hfl; clear hfl
  go_wp2_with (go_at_call 25; refine (joined_any _ _ _ HP.out (by rw [HFL.out, Prot.bytes_len]; omega)).mono ?_; rintro e w4 ⟨u4, rfl, hu4, h1⟩; rw [HFL.out] at hu4)
  have K4 := Lib.hid ((K3.out.alloc _).below h1)
  have B4 := Lib.hid (gr_tr (gr_alloc _ _) h1); clear h1
  have U4 := Lib.hid hu4; clear hu4
  refine ⟨K4.out, ?_⟩
  refine wpS_chain rfl ?_
  obtain ⟨a4, c4, rfl, hn4, hl4, hm4, hr4⟩ := id U4.out
  have R4 := Lib.hid hr4; clear hr4
  have B := Lib.hid ((gr_tr (gr_tr (gr_tr B1.out B2.out) B3.out) B4.out).mono (B' := w.heap.size + 1) (by rw [HSZ.out]; omega))
  have hW4 : w4.heap[w.heap.size + 1]? = some (.cells z8.toArray 51 (0, 0)) := by
    rw [(gr_tr (gr_tr (gr_tr B1.out B2.out) B3.out) B4.out).block _ (by rw [HSZ.out]; omega)]; exact HWB.out
  have HW4 := Lib.hid hW4; clear hW4
  have hl8 := Prot.bytes_len g a r
  have L8 := Lib.hid hl8; clear hl8
  clear c0 c1 c2
  go_wp2_with (with_reducible refine wpList_copy_splice rfl _ _ _ _ rfl 5 Try.underlying46 bsz _ _ _ _ _ _ rfl rfl (w.heap.size + 1) 0 z8 51 HW4.out (by8 (Prot.bytes g a r)) ?_ ?_ ?_ (by8_one _) (w.heap.size + 1) W B.out (Nat.le_refl _) ?_)
  · rw [by8_length, L8.out]; rfl
  · intro _; exact R4.out.src (by intro h; have := congrArg List.length h; rw [by8_length, L8.out] at this; exact absurd this (by decide))
  · rw [by8_length, L8.out]; decide
  intro w5 hg5 hb5
  have B5 := Lib.hid hb5; clear hb5
  refine ⟨keep_of_below B5.out HSZ.out, ?_⟩
  rw [splice_all z8 (by8 (Prot.bytes g a r)) (by rw [by8_length, L8.out]; rfl)] at hg5
  obtain ⟨R, hR⟩ : ∃ R, R = (by8 (Prot.bytes g a r)).toArray := ⟨_, rfl⟩
  have hR8 : R.size = 8 := by rw [hR, List.size_toArray, by8_length, L8.out]
  have hR1 : R.all (·.oneCell') = true := by rw [hR]; simpa using by8_one (Prot.bytes g a r)
  rw [← hR] at hg5
  have HG5 := Lib.hid hg5.out; clear hg5
  have HR := Lib.hid hR; clear hR
  have HR8 := Lib.hid hR8; clear hR8
  have HR1 := Lib.hid hR1; clear hR1
  unfold wpS
  go_wp2_with (first
    | (refine wpList_load_row rfl 51 _ rfl (w.heap.size + 1) rfl 51 R (0, 0) _ HG5.out Try.underlying51 rfl (by rw [HR8.out]; kernel_rfl) ?_)
    | (refine wpList_store_row rfl 51 (.tmp 2) (.tmp 19) rfl (w.heap.size + 1) R rfl rfl 51 R HG5.out (by rw [HR8.out]; kernel_rfl) rfl HR1.out ?_))
  exact bodyPost_ret (v := .agg R) (results_cell_row rfl _ _ (w.heap.size + 1) 51 R (0, 0) _ rfl (setRow_heap _ _ _ _ _ _ HG5.out) Try.underlying51 rfl (by rw [HR8.out]; kernel_rfl)) rfl ⟨by rw [HR.out], below_setRow (HBW.out.trans (B5.out.mono (Nat.le_succ _))) (Nat.le_succ _) _⟩
end Go.Proofs.Ytpobkgkjfebhgaa
