/- The walks of capsuleref17: Read, Insert. -/
import Derived.Test.YtmccihngbdopdaaRef17C
namespace Go.Proofs.Ytmccihngbdopdaa
open Go.RowKit
set_option linter.unusedVariables false
set_option linter.unusedSimpArgs false
theorem Tuple_at (v : Value) (k : List (BitVec 8)) (g a : BitVec 16) (r : BitVec 32) (w : World) (hv : BytesV w v k) (h8 : k.length = 8) (hg : Prot.tg k = g) (ha : Prot.ta k = a) (hr : Prot.tr k = r) :
    Calls Try.prog 15 #[v] w fun e w' => e = .returned (.agg #[.int .u16 (uv g), .int .u16 (uv a), .int .u32 (uv r)]) ∧ Below w.heap.size w w' := by
  subst hg ha hr; exact Tuple_any v k w hv h8
set_option maxRecDepth 4000 in
set_option maxHeartbeats 800000 in
theorem rRead_any (ty : Int) (fs : Bool) (m : Value) (lm : List (BitVec 8)) (w : World) (hm : BytesV w m lm) :
    Calls Try.prog 28 #[.agg #[.int .i64 ty, .bool fs], m] w fun e w' => e = .returned (.tuple #[.agg #[.int .u16 (uv (Prot.rg ty fs lm)), .int .u16 (uv (Prot.ra ty fs lm)), .int .u32 (uv (Prot.rr ty fs lm))], .int .i64 (Prot.wr ty fs true lm.length)]) ∧ Below w.heap.size w w' := by
  obtain ⟨n, hn⟩ : ∃ n, Prot.wr ty fs true lm.length = n := ⟨_, rfl⟩
  obtain ⟨b1, h1⟩ : ∃ b, Prot.valid ty fs = b := ⟨_, rfl⟩
  obtain ⟨b2, h2⟩ : ∃ b, (ty == 0) = b := ⟨_, rfl⟩
  obtain ⟨b3, h3⟩ : ∃ b, decide ((lm.length : Int) < 8) = b := ⟨_, rfl⟩
  have hn' : n = Prot.err2 (!b1 || b2) (decide (0 < ty) && b3) := by rw [← hn, ← h1, ← h2, ← h3]; simp [Prot.wr]
  obtain ⟨g, hg⟩ : ∃ z, Prot.rg ty fs lm = z := ⟨_, rfl⟩
  obtain ⟨a, ha⟩ : ∃ z, Prot.ra ty fs lm = z := ⟨_, rfl⟩
  obtain ⟨r, hr⟩ : ∃ z, Prot.rr ty fs lm = z := ⟨_, rfl⟩
  rw [hg, ha, hr, hn]
  unfold Prot.rg at hg
  unfold Prot.ra at ha
  unfold Prot.rr at hr
  rw [hn] at hg ha hr
  have HM := Lib.hid hm; clear hm
  have hW : ((w.alloc (.cells #[.int .i64 ty, .bool fs] 28)).alloc (.cells #[.int .u16 0, .int .u16 0, .int .u32 0] 25)).heap[w.heap.size + 1]? = some (.cells #[.int .u16 0, .int .u16 0, .int .u32 0] 25 (0, 0)) := heap_alloc2_new _ _ _
  have HW := Lib.hid hW; clear hW
  have H1 := Lib.hid h1; clear h1
  have HN := Lib.hid hn; clear hn
  by_cases hbad : (!b1 || b2) = true
  · obtain rfl : n = 2 := by rw [hn', hbad]; rfl
    obtain rfl : g = 0#16 := by rw [← hg]; rfl
    obtain rfl : a = 0#16 := by rw [← ha]; rfl
    obtain rfl : r = 0#32 := by rw [← hr]; rfl
    clear hg ha hr hn' h3
    cases b1
    · clear h2 hbad
      go_enter Try.func28, Try.ntmps28
      go_wp2_with (first
        | (go_at_call 17; refine (rValid_at _ _ _ _ H1.out).mono ?_; rintro e w1 ⟨rfl, hw1⟩; have d0 : w1.cell? ⟨w.heap.size, 0, none⟩ = some (.int .i64 ty) := below_get hw1 (by simp [go_sem]); have b1 := (hw1.block (w.heap.size + 1) (by simp)).trans HW.out; have HB1 := Lib.hid b1; have B1 := Lib.hid (gr_tr (gr_tr (gr_alloc _ _) (gr_alloc _ _)) hw1); clear hw1 b1)
        | (refine wpList_store_row rfl 25 (.tmp 4) _ rfl (w.heap.size + 1) #[.int .u16 0, .int .u16 0, .int .u32 0] rfl rfl 25 #[.int .u16 0, .int .u16 0, .int .u32 0] HB1.out (by kernel_rfl) rfl (by simp [Value.oneCell']) ?_))
      exact bodyPost_ret (results_row_tmp rfl _ _ (w.heap.size + 1) 25 _ (0, 0) _ rfl (setRow_heap _ _ _ _ _ _ HB1.out) Try.underlying25 rfl (by kernel_rfl)) rfl ⟨rfl, below_setRow B1.out (Nat.le_succ _) _⟩
    · obtain rfl : b2 = true := by simpa using hbad
      clear hbad
      go_enter Try.func28, Try.ntmps28
      go_wp2_with (first
        | (go_at_call 17; refine (rValid_at _ _ _ _ H1.out).mono ?_; rintro e w1 ⟨rfl, hw1⟩; have d0 : w1.cell? ⟨w.heap.size, 0, none⟩ = some (.int .i64 ty) := below_get hw1 (by simp [go_sem]); have b1 := (hw1.block (w.heap.size + 1) (by simp)).trans HW.out; have HB1 := Lib.hid b1; have B1 := Lib.hid (gr_tr (gr_tr (gr_alloc _ _) (gr_alloc _ _)) hw1); clear hw1 b1)
        | (refine wpList_store_row rfl 25 (.tmp 4) _ rfl (w.heap.size + 1) #[.int .u16 0, .int .u16 0, .int .u32 0] rfl rfl 25 #[.int .u16 0, .int .u16 0, .int .u32 0] HB1.out (by kernel_rfl) rfl (by simp [Value.oneCell']) ?_))
      exact bodyPost_ret (results_row_tmp rfl _ _ (w.heap.size + 1) 25 _ (0, 0) _ rfl (setRow_heap _ _ _ _ _ _ HB1.out) Try.underlying25 rfl (by kernel_rfl)) rfl ⟨rfl, below_setRow B1.out (Nat.le_succ _) _⟩
  · obtain ⟨rfl, rfl⟩ : b1 = true ∧ b2 = false := by cases b1 <;> cases b2 <;> simp at hbad ⊢
    clear hbad
    have hpos : decide (0 < ty) = true := by have := (Prot.valid_range H1.out).1; simp at h2 ⊢; omega
    rw [hpos] at hn'
    clear hpos
    cases b3
    · obtain rfl : n = 0 := hn'
      rw [if_pos rfl] at hg ha hr
      have hl8 : 8 ≤ lm.length := by simp at h3; omega
      obtain ⟨p, hp⟩ : ∃ p, Prot.place fs lm.length = p := ⟨_, rfl⟩
      have hpl : p + 8 ≤ lm.length := by subst hp; unfold Prot.place; split <;> omega
      obtain ⟨k, hk⟩ : ∃ k, Prot.cut fs lm = k := ⟨_, rfl⟩
      have hk8 : k.length = 8 := by rw [← hk]; exact Prot.cut_len hl8
      have hpm : p + 8 ≤ 9223372036854775807 := by
        obtain ⟨am, cm, -, -, q1, q2, -⟩ := HM.out
        omega
      obtain ⟨u, hu, ru, -⟩ := HM.out.cut Try.underlying35 bsz p (p + 8) (by omega) hpl
      rw [show (lm.take (p + 8)).drop p = k by rw [← hk, Prot.cut, hp, List.drop_take]; congr 1; omega] at hu
      rw [show ((p + 8 : Nat) : Int) = (p : Int) + 8 by omega] at ru
      rw [hk] at hg ha hr
      have HG := Lib.hid hg; clear hg
      have HA := Lib.hid ha; clear ha
      have HR := Lib.hid hr; clear hr
      have HK8 := Lib.hid hk8; clear hk8 hk
      have HP := Lib.hid hp; clear hp hpl
      have HL8 := Lib.hid hl8; clear hl8
      have HU := Lib.hid hu; clear hu
      have hmm := HM.out
      obtain ⟨am, cm, rfl, -, -, -, -⟩ := hmm
      go_enter Try.func28, Try.ntmps28
      go_wp2_with (first
        | (go_at_call 17; refine (rValid_at _ _ _ _ H1.out).mono ?_; rintro e w1 ⟨rfl, hw1⟩; have d0 : w1.cell? ⟨w.heap.size, 0, none⟩ = some (.int .i64 ty) := below_get hw1 (by simp [go_sem]); have d1 : w1.cell? ⟨w.heap.size, 1, none⟩ = some (.bool fs) := below_get hw1 (by simp [go_sem]); have b1 := (hw1.block (w.heap.size + 1) (by simp)).trans HW.out; have HB1 := Lib.hid b1; have B1 := Lib.hid (gr_tr (gr_tr (gr_alloc _ _) (gr_alloc _ _)) hw1); clear hw1 b1)
        | (go_at_call 42; refine (place_any _ _ _ _ p _ (HM.out.below B1.out) HL8.out HP.out).mono ?_; rintro e w2 ⟨rfl, hw2⟩; have b2 := (hw2.block (w.heap.size + 1) (block_lt HB1.out)).trans HB1.out; have HB2 := Lib.hid b2; have B2 := Lib.hid (gr_tr B1.out hw2); clear hw2 b2)
        | (go_at_call 15; refine (Tuple_at _ k g a r _ (HU.out.below B2.out) HK8.out HG.out HA.out HR.out).mono ?_; rintro e w3 ⟨rfl, hw3⟩; have b3 := (hw3.block (w.heap.size + 1) (block_lt HB2.out)).trans HB2.out; have HB3 := Lib.hid b3; have B3 := Lib.hid (gr_tr B2.out hw3); clear hw3 b3)
        | (refine wpList_store_row rfl 25 (.tmp 4) _ rfl (w.heap.size + 1) #[.int .u16 (uv g), .int .u16 (uv a), .int .u32 (uv r)] rfl rfl 25 #[.int .u16 0, .int .u16 0, .int .u32 0] HB3.out (by kernel_rfl) rfl (by simp [Value.oneCell']) ?_))
      exact bodyPost_ret (results_row_tmp rfl _ _ (w.heap.size + 1) 25 _ (0, 0) _ rfl (setRow_heap _ _ _ _ _ _ HB3.out) Try.underlying25 rfl (by kernel_rfl)) rfl ⟨rfl, below_setRow B3.out (Nat.le_succ _) _⟩
    · obtain rfl : n = 4 := hn'
      obtain rfl : g = 0#16 := by rw [← hg]; rfl
      obtain rfl : a = 0#16 := by rw [← ha]; rfl
      obtain rfl : r = 0#32 := by rw [← hr]; rfl
      clear hg ha hr
      have hmm := HM.out
      obtain ⟨am, cm, rfl, -, -, -, -⟩ := hmm
      go_enter Try.func28, Try.ntmps28
      go_wp2_with (first
        | (go_at_call 17; refine (rValid_at _ _ _ _ H1.out).mono ?_; rintro e w1 ⟨rfl, hw1⟩; have d0 : w1.cell? ⟨w.heap.size, 0, none⟩ = some (.int .i64 ty) := below_get hw1 (by simp [go_sem]); have b1 := (hw1.block (w.heap.size + 1) (by simp)).trans HW.out; have HB1 := Lib.hid b1; have B1 := Lib.hid (gr_tr (gr_tr (gr_alloc _ _) (gr_alloc _ _)) hw1); clear hw1 b1)
        | (refine wpList_store_row rfl 25 (.tmp 4) _ rfl (w.heap.size + 1) #[.int .u16 0, .int .u16 0, .int .u32 0] rfl rfl 25 #[.int .u16 0, .int .u16 0, .int .u32 0] HB1.out (by kernel_rfl) rfl (by simp [Value.oneCell']) ?_))
      exact bodyPost_ret (results_row_tmp rfl _ _ (w.heap.size + 1) 25 _ (0, 0) _ rfl (setRow_heap _ _ _ _ _ _ HB1.out) Try.underlying25 rfl (by kernel_rfl)) rfl ⟨rfl, below_setRow B1.out (Nat.le_succ _) _⟩
end Go.Proofs.Ytmccihngbdopdaa
