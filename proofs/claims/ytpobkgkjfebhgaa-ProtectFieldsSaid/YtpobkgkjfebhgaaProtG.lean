/- The walks of package protect: Insert, Generate. -/
import Derived.Test.YtpobkgkjfebhgaaProtF
namespace Go.Proofs.Ytpobkgkjfebhgaa
open Go.RowKit
set_option linter.unusedVariables false
set_option linter.unusedSimpArgs false

/-- The eight bytes of a tuple in a new block. -/
theorem new8 (w : World) (l : List (BitVec 8)) (hl : l.length = 8) :
    BytesV ((w.alloc (.cells #[.int .u8 0, .int .u8 0, .int .u8 0, .int .u8 0, .int .u8 0, .int .u8 0, .int .u8 0, .int .u8 0] 51)).setRow w.heap.size (by8 l).toArray) (.slice (some ⟨w.heap.size, 0, none⟩) 8 8) l ∧ Below w.heap.size w ((w.alloc (.cells #[.int .u8 0, .int .u8 0, .int .u8 0, .int .u8 0, .int .u8 0, .int .u8 0, .int .u8 0, .int .u8 0] 51)).setRow w.heap.size (by8 l).toArray) :=
  ⟨BytesV.of_row (setRow_heap _ _ _ _ _ _ (heap_alloc_new _ _)) 8 hl.symm (by omega), below_setRow (gr_alloc _ _) (Nat.le_refl _) _⟩
theorem one8 (l : List (BitVec 8)) : (by8 l).toArray.all (·.oneCell') = true := all_oneCell_toArray (by8_one l)
theorem info8 {l : List (BitVec 8)} (hl : l.length = 8) : (Try.prog.info? 51).map (·.size) = some (by8 l).toArray.size := by
  rw [List.size_toArray, by8_length, hl]; kernel_rfl

theorem old8 {l : List (BitVec 8)} (hl : l.length = 8) : (#[.int .u8 0, .int .u8 0, .int .u8 0, .int .u8 0, .int .u8 0, .int .u8 0, .int .u8 0, .int .u8 0] : Array Value).size = (by8 l).toArray.size := by
  rw [show (by8 l).toArray.size = 8 by rw [List.size_toArray, by8_length, hl]]; rfl


namespace Prot
def gen (ty : Int) (fs : Bool) (d l : List (BitVec 8)) (a : BitVec 16) (r : BitVec 32) : List (BitVec 8) :=
  if wr ty fs false l.length = 0 then (if ty = 0 then l else l.take (place fs l.length) ++ bytes (guard ty fs d l) a r ++ l.drop (place fs l.length + 8)) else []
end Prot
theorem Guard_at (ty : Int) (fs : Bool) (v m : Value) (lv lm : List (BitVec 8)) (x n : Int) (w : World) (hv : BytesV w v lv) (hm : BytesV w m lm) (hs : lv.length + lm.length ≤ 140737488355328)
    (hn : Prot.wr ty fs false lm.length = n) (hx : (if n = 0 then uv (Prot.guard ty fs lv lm) else 0) = x) :
    Calls Try.prog 22 #[.agg #[.int .i64 ty, .bool fs], v, m] w fun e w' => e = .returned (.tuple #[.int .u16 x, .int .i64 n]) ∧ Below w.heap.size w w' := by
  subst hn hx; exact Guard_any ty fs v m lv lm w hv hm hs
theorem Encode_at (g a : BitVec 16) (r : BitVec 32) (k : List (BitVec 8)) (w : World) (hk : Prot.bytes g a r = k) :
    Calls Try.prog 12 #[.agg #[.int .u16 (uv g), .int .u16 (uv a), .int .u32 (uv r)]] w fun e w' => e = .returned (.agg (by8 k).toArray) ∧ Below w.heap.size w w' := by
  subst hk; exact Encode_any g a r w
set_option maxHeartbeats 800000 in
set_option maxRecDepth 4000 in
theorem Generate_any (ty : Int) (fs : Bool) (v m : Value) (lv lm : List (BitVec 8)) (a : BitVec 16) (r : BitVec 32) (w : World) (hv : BytesV w v lv) (hm : BytesV w m lm) (hs : lv.length + lm.length ≤ 140737488355000) :
    Calls Try.prog 9 #[.agg #[.int .i64 ty, .bool fs], v, m, .int .u16 (uv a), .int .u32 (uv r)] w fun e w' => ∃ u, e = .returned (.tuple #[u, .int .i64 (Prot.wr ty fs false lm.length)]) ∧ BytesV w' u (Prot.gen ty fs lv lm a r) ∧ Below w.heap.size w w' := by
  obtain ⟨n, hn⟩ : ∃ n, Prot.wr ty fs false lm.length = n := ⟨_, rfl⟩
  unfold Prot.gen
  rw [hn]
  have HN := Lib.hid hn; clear hn
  have HV := Lib.hid hv; clear hv
  have HM := Lib.hid hm; clear hm
  have hs1 : lv.length + lm.length ≤ 140737488355328 := by omega
  have hs2 : lm.length ≤ 140737488355328 := by omega
  have HS1 := Lib.hid hs1; clear hs1
  have HS2 := Lib.hid hs2; clear hs2
  have hc := HN.out ▸ Prot.wr_cases ty fs false lm.length
  rcases hc with rfl | rfl | rfl
  · obtain ⟨hok, -, h8⟩ := Prot.wr_ok HN.out
    have hr := (Prot.valid_range hok).1; clear hok
    obtain ⟨g, hg⟩ : ∃ g, Prot.guard ty fs lv lm = g := ⟨_, rfl⟩
    rw [hg]
    have hgx : (if (0 : Int) = 0 then uv (Prot.guard ty fs lv lm) else 0) = uv g := by rw [if_pos rfl, hg]
    have HG := Lib.hid hgx; clear hgx hg
    by_cases h0 : ty = 0
    · subst h0
      clear h8 hs hr
      go_enter Try.func9, Try.ntmps9
      go_wp2_with (first
        | (go_at_call 22; refine (Guard_at _ _ _ _ _ _ _ 0 _ (HV.out.below (gr_alloc _ _)) (HM.out.below (gr_alloc _ _)) HS1.out HN.out HG.out).mono ?_; rintro e w1 ⟨rfl, hw1⟩; have d0 : w1.cell? ⟨w.heap.size, 0, none⟩ = some (.int .i64 0) := below_get hw1 (by simp [go_sem]); have B1 := Lib.hid (gr_tr (gr_alloc _ _) hw1); clear hw1)
        | (go_at_call 23; refine (Clone_any _ _ _ (HM.out.below B1.out) HS2.out).mono ?_; rintro e w2 ⟨u, rfl, hu, hw2⟩; have U := Lib.hid (BytesV.of_own hu); have B2 := Lib.hid (gr_tr B1.out hw2); clear hu hw2))
      go_ret2
      exact ⟨_, rfl, U.out, B2.out⟩
    · have hq : (ty == 0) = false := by simpa using h0
      have hl8 : 8 ≤ lm.length := h8 (by omega)
      have HL8 := Lib.hid hl8; clear hl8
      rw [if_neg h0]
      obtain ⟨k, hk⟩ : ∃ k, Prot.bytes g a r = k := ⟨_, rfl⟩
      have hk8 : k.length = 8 := by rw [← hk]; exact Prot.bytes_len g a r
      rw [hk]
      have HK := Lib.hid hk; clear hk
      have HK8 := Lib.hid hk8; clear hk8
      obtain ⟨l1, hl1⟩ : ∃ l1, lm.take (Prot.place fs lm.length) = l1 := ⟨_, rfl⟩
      obtain ⟨l3, hl3⟩ : ∃ l3, lm.drop (Prot.place fs lm.length + 8) = l3 := ⟨_, rfl⟩
      have hf : [l1, k, l3].flatten = l1 ++ k ++ l3 := by simp
      have hfs : [l1, k, l3].flatten.length ≤ 140737488355328 := by
        rw [hf, ← hl1, ← hl3]; simp only [List.length_append, List.length_take, List.length_drop, HK8.out]; omega
      rw [hl1, hl3]
      have HL1 := Lib.hid hl1; clear hl1
      have HL3 := Lib.hid hl3; clear hl3
      have HF := Lib.hid hf; clear hf
      have HFS := Lib.hid hfs; clear hfs hs h0 hr h8
      go_enter Try.func9, Try.ntmps9
      go_wp2_with (first
        | (go_at_call 22; refine (Guard_at _ _ _ _ _ _ _ 0 _ (HV.out.below (gr_alloc _ _)) (HM.out.below (gr_alloc _ _)) HS1.out HN.out HG.out).mono ?_; rintro e w1 ⟨rfl, hw1⟩; have d0 : w1.cell? ⟨w.heap.size, 0, none⟩ = some (.int .i64 ty) := below_get hw1 (by simp [go_sem]); have d1 : w1.cell? ⟨w.heap.size, 1, none⟩ = some (.bool fs) := below_get hw1 (by simp [go_sem]); have B1 := Lib.hid (gr_tr (gr_alloc _ _) hw1); clear hw1)
        | (go_at_call 24; refine (parts_any _ _ _ _ _ (HM.out.below B1.out) HL8.out).mono ?_; rintro e w2 ⟨u1, u2, u3, rfl, hu1, hu2, hu3, hw2⟩; rw [HL1.out] at hu1; rw [HL3.out] at hu3; have B2 := Lib.hid (gr_tr B1.out hw2); have U1 := Lib.hid hu1; have U3 := Lib.hid hu3; clear hw2 hu1 hu2 hu3)
        | (go_at_call 12; refine (Encode_at g a r k _ HK.out).mono ?_; rintro e w3 ⟨rfl, hw3⟩; have B3 := Lib.hid hw3; clear hw3)
        | (refine wpList_store_row rfl 51 (.tmp 17) _ rfl w3.heap.size (by8 k).toArray rfl rfl 51 #[.int .u8 0, .int .u8 0, .int .u8 0, .int .u8 0, .int .u8 0, .int .u8 0, .int .u8 0, .int .u8 0] (heap_alloc_new _ _) (info8 HK8.out) (old8 HK8.out) (one8 k) ?_; have h5 := new8 w3 k HK8.out; generalize hw5 : (w3.alloc (.cells #[.int .u8 0, .int .u8 0, .int .u8 0, .int .u8 0, .int .u8 0, .int .u8 0, .int .u8 0, .int .u8 0] 51)).setRow w3.heap.size (by8 k).toArray = w5 at h5 ⊢; have N5 := Lib.hid h5.1; have B5 := Lib.hid (gr_tr B3.out h5.2); clear hw5 h5; have V1 := Lib.hid (U1.out.below B5.out); have V3 := Lib.hid (U3.out.below B5.out); clear U1 U3; obtain ⟨a1, n1, c1, rfl⟩ := V1.out.shape; obtain ⟨a3, n3, c3, rfl⟩ := V3.out.shape; have P := Lib.hid (lits3 V1.out N5.out V3.out))
        | (go_at_call 25; refine (joined_any _ [l1, k, l3] _ (PartsV.lit _ _ _ _ 3 rfl rfl (by omega) P.out) HFS.out).mono ?_; rintro e w6 ⟨u, rfl, hu, hw6⟩; rw [HF.out] at hu; have U := Lib.hid hu; have B6 := Lib.hid (gr_tr B2.out (gr_tr B5.out (gr_tr (gr_alloc _ _) hw6))); clear hu hw6))
      go_ret2
      have hU := U.out
      rw [List.append_assoc] at hU
      exact ⟨_, rfl, hU, B6.out⟩
  all_goals
    go_enter Try.func9, Try.ntmps9
    go_wp2_with (first
      | (go_at_call 22; refine (Guard_at _ _ _ _ _ _ 0 _ _ (HV.out.below (gr_alloc _ _)) (HM.out.below (gr_alloc _ _)) HS1.out HN.out rfl).mono ?_; rintro e w1 ⟨rfl, hw1⟩; have B1 := Lib.hid (gr_tr (gr_alloc _ _) hw1); clear hw1))
    go_ret2
    exact ⟨_, rfl, BytesV.nil _, B1.out⟩
end Go.Proofs.Ytpobkgkjfebhgaa
