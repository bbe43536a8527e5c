/- The walks of package protect: Valid, first, wrong. -/
import Derived.Test.YtpobkgkjfebhgaaWireA
import Derived.Test.YtpobkgkjfebhgaaConcat
import Derived.Test.YtpobkgkjfebhgaaPlan
namespace Go.Proofs.Ytpobkgkjfebhgaa
open Go.RowKit
set_option linter.unusedVariables false
set_option linter.unusedSimpArgs false

namespace Prot
def valid (ty : Int) (fs : Bool) : Bool := decide (0 ≤ ty ∧ ty ≤ 3) && (decide (0 < ty) || !fs)
def err1 (a : Bool) : Int := if a then 2 else 0
def err2 (a b : Bool) : Int := if a then 2 else if b then 4 else 0
end Prot

theorem Valid_any (ty : Int) (fs : Bool) (w : World) :
    Calls Try.prog 14 #[.agg #[.int .i64 ty, .bool fs]] w fun e w' => e = .returned (.bool (Prot.valid ty fs)) ∧ Below w.heap.size w w' := by
  by_cases h1 : 0 ≤ ty ∧ ty ≤ 3
  · by_cases h2 : 0 < ty
    · have hq : (ty / 4 == 0) = true := by simp; omega
      have hfin : Prot.valid ty fs = true := by simp [Prot.valid, h1, h2]
      have HF := Lib.hid hfin; clear hfin
      obtain ⟨h3, h4⟩ := h1
      go_enter Try.func14, Try.ntmps14
      go_wp2
      go_ret
      exact ⟨by rw [HF.out]; rfl, gr_alloc _ _⟩
    · obtain rfl : ty = 0 := by omega
      cases fs
      all_goals
        go_enter Try.func14, Try.ntmps14
        go_wp2
        go_ret
        exact ⟨rfl, gr_alloc _ _⟩
  · have hq : (ty / 4 == 0) = false := by simp; omega
    have hfin : Prot.valid ty fs = false := by simp [Prot.valid, h1]
    have HF := Lib.hid hfin; clear hfin h1
    go_enter Try.func14, Try.ntmps14
    go_wp2
    go_ret
    exact ⟨by rw [HF.out]; rfl, gr_alloc _ _⟩

theorem first1_any (a : Bool) (b o c : Nat) (w : World) (h : w.cell? ⟨b, o, none⟩ = some (.bool a)) :
    Calls Try.prog 21 #[.slice (some ⟨b, o, none⟩) 1 c] w fun e w' => e = .returned (.int .i64 (Prot.err1 a)) ∧ Below w.heap.size w w' := by
  have hb : b < w.heap.size := block_lt_of_cell h
  cases a
  · go_enter Try.func21, Try.ntmps21
    go_wp2
    go_step3
    go_wp2
    refine wp_loop_rounds 2 ?_
    rw [rounds_succ]
    go_wp2
    rw [rounds_succ]
    go_wp2
    rw [Exit.noGoto_ret]
    go_ret
    exact ⟨rfl, gr_alloc _ _⟩
  · go_enter Try.func21, Try.ntmps21
    go_wp2
    refine wp_scope_forward 0 rfl ?_
    apply Exists.intro
    apply Exists.intro
    apply And.intro
    case left =>
      go_wp2
      refine wp_loop_rounds 1 ?_
      rw [rounds_succ]
      go_wp2
      go_step3
      exact ⟨rfl, rfl, rfl⟩
    case right =>
      go_wp2
      rw [Exit.noGoto_ret]
      go_ret
      exact ⟨rfl, gr_alloc _ _⟩
theorem first2_any (a1 a2 : Bool) (b o c : Nat) (w : World) (h1 : w.cell? ⟨b, o, none⟩ = some (.bool a1)) (h2 : w.cell? ⟨b, o + 1, none⟩ = some (.bool a2)) :
    Calls Try.prog 21 #[.slice (some ⟨b, o, none⟩) 2 c] w fun e w' => e = .returned (.int .i64 (Prot.err2 a1 a2)) ∧ Below w.heap.size w w' := by
  have hb : b < w.heap.size := block_lt_of_cell h1
  cases a1
  · cases a2
    · go_enter Try.func21, Try.ntmps21
      go_wp2
      go_step3
      go_wp2
      refine wp_loop_rounds 3 ?_
      rw [rounds_succ]
      go_wp2
      rw [rounds_succ]
      go_wp2
      rw [rounds_succ]
      go_wp2
      rw [Exit.noGoto_ret]
      go_ret
      exact ⟨rfl, gr_alloc _ _⟩
    · go_enter Try.func21, Try.ntmps21
      go_wp2
      refine wp_scope_forward 0 rfl ?_
      apply Exists.intro
      apply Exists.intro
      apply And.intro
      case left =>
        go_wp2
        refine wp_loop_rounds 2 ?_
        rw [rounds_succ]
        go_wp2
        rw [rounds_succ]
        go_wp2
        go_step3
        exact ⟨rfl, rfl, rfl⟩
      case right =>
        go_wp2
        rw [Exit.noGoto_ret]
        go_ret
        exact ⟨rfl, gr_alloc _ _⟩
  · go_enter Try.func21, Try.ntmps21
    go_wp2
    refine wp_scope_forward 0 rfl ?_
    apply Exists.intro
    apply Exists.intro
    apply And.intro
    case left =>
      go_wp2
      refine wp_loop_rounds 1 ?_
      rw [rounds_succ]
      go_wp2
      go_step3
      exact ⟨rfl, rfl, rfl⟩
    case right =>
      go_wp2
      rw [Exit.noGoto_ret]
      go_ret
      exact ⟨rfl, gr_alloc _ _⟩

theorem Valid_at (ty : Int) (fs : Bool) (b : Bool) (w : World) (h : Prot.valid ty fs = b) :
    Calls Try.prog 14 #[.agg #[.int .i64 ty, .bool fs]] w fun e w' => e = .returned (.bool b) ∧ Below w.heap.size w w' := by
  subst h; exact Valid_any ty fs w
set_option maxHeartbeats 1600000 in
theorem wrong_any (ty : Int) (fs : Bool) (v : Value) (l : List (BitVec 8)) (rq : Bool) (w : World) (hv : BytesV w v l) :
    Calls Try.prog 26 #[.agg #[.int .i64 ty, .bool fs], v, .bool rq] w fun e w' => e = .returned (.int .i64 (Prot.err2 (!Prot.valid ty fs || (rq && ty == 0)) (decide (0 < ty) && decide ((l.length : Int) < 8)))) ∧ Below w.heap.size w w' := by
  obtain ⟨a, c, rfl, _, _, _, _⟩ := hv
  obtain ⟨b1, h⟩ : ∃ b1, Prot.valid ty fs = b1 := ⟨_, rfl⟩
  have H := Lib.hid h; clear h
  cases b1
  · by_cases b2 : 0 < ty
    · have hf : Prot.err2 (!Prot.valid ty fs || (rq && ty == 0)) (decide (0 < ty) && decide ((l.length : Int) < 8)) = Prot.err2 true (decide ((l.length : Int) < 8)) := by rw [H.out]; simp [b2]
      have HF := Lib.hid hf; clear hf
      have c0 : ∀ y : KeepT nowhere (w.alloc (.cells #[.int .i64 ty, .bool fs] 42)), y.val.cell? ⟨w.heap.size, 0, none⟩ = some (.int .i64 ty) := fun y => y.cell (by simp [go_sem]) id
      have c1 : ∀ y : KeepT nowhere (w.alloc (.cells #[.int .i64 ty, .bool fs] 42)), y.val.cell? ⟨w.heap.size, 1, none⟩ = some (.bool fs) := fun y => y.cell (by simp [go_sem]) id
      go_enter Try.func26, Try.ntmps26
      go_wp2_with fail
      refine wp_region_plan (Keep nowhere (w.alloc (.cells #[.int .i64 ty, .bool fs] 42))) [(true, 0), (true, 11), (true, 12), (true, 13), (false, 1), (true, 2), (true, 3), (true, 4), (true, 5), (true, 6), (true, 7), (true, 8), (true, 9), (true, 10), (true, 14), (true, 15), (true, 16), (true, 17), (true, 18), (false, 19), (false, 20), (true, 21)]
        (by kernel_rfl) (by kernel_rfl) (by intro c a d v w h; cases d <;> exact h) (Keep.start _ _) ?_
      repeat (refine wpS_firm rfl (fun K hK => ?_); simp only [Keep]; go_simp; refine hK _ ?_; clear hK K)
      refine wpS_chain rfl ?_
      go_wp2_with (go_at_call 14; refine (Valid_at _ _ false _ H.out).mono ?_; rintro e w1 ⟨rfl, h1⟩)
      have HK1 := Lib.hid (Keep.below (Keep.start nowhere (w.alloc (.cells #[.int .i64 ty, .bool fs] 42))) h1)
      have HB1 := Lib.hid (gr_tr (gr_alloc w _) (gr_tr (gr_drew _) h1)); clear h1
      refine ⟨HK1.out, ?_⟩
      repeat (refine wpS_firm rfl (fun K hK => ?_); simp only [Keep]; go_simp; refine hK _ ?_; clear hK K)
      refine wpS_chain rfl ?_
      go_wp2_with fail
      refine ⟨HK1.out.alloc _, ?_⟩
      repeat (refine wpS_firm rfl (fun K hK => ?_); simp only [Keep]; go_simp; refine hK _ ?_; clear hK K)
      refine wpS_chain rfl ?_
      go_wp2_with (go_at_call 21; refine (first2_any _ _ _ _ _ _ (by simp [go_sem]; rfl) (by simp [go_sem]; rfl)).mono ?_; rintro e w2 ⟨rfl, h2⟩)
      refine ⟨(HK1.out.alloc _).below h2, ?_⟩
      repeat (refine wpS_firm rfl (fun K hK => ?_); simp only [Keep]; go_simp; refine hK _ ?_; clear hK K)
      unfold wpS
      go_wp2_with fail
      go_ret
      exact ⟨by rw [HF.out]; rfl, gr_tr (gr_tr HB1.out (gr_alloc _ _)) h2⟩
    · have hf : Prot.err2 (!Prot.valid ty fs || (rq && ty == 0)) (decide (0 < ty) && decide ((l.length : Int) < 8)) = Prot.err2 true false := by rw [H.out]; simp [b2]
      have HF := Lib.hid hf; clear hf
      have hd : decide (0 < ty) = false := by simpa using b2
      clear b2
      have c0 : ∀ y : KeepT nowhere (w.alloc (.cells #[.int .i64 ty, .bool fs] 42)), y.val.cell? ⟨w.heap.size, 0, none⟩ = some (.int .i64 ty) := fun y => y.cell (by simp [go_sem]) id
      have c1 : ∀ y : KeepT nowhere (w.alloc (.cells #[.int .i64 ty, .bool fs] 42)), y.val.cell? ⟨w.heap.size, 1, none⟩ = some (.bool fs) := fun y => y.cell (by simp [go_sem]) id
      go_enter Try.func26, Try.ntmps26
      go_wp2_with fail
      refine wp_region_plan (Keep nowhere (w.alloc (.cells #[.int .i64 ty, .bool fs] 42))) [(true, 0), (true, 11), (true, 12), (true, 13), (false, 1), (true, 2), (true, 3), (true, 4), (true, 5), (true, 6), (true, 7), (true, 8), (true, 9), (true, 10), (true, 14), (true, 15), (true, 16), (true, 17), (true, 18), (false, 19), (false, 20), (true, 21)]
        (by kernel_rfl) (by kernel_rfl) (by intro c a d v w h; cases d <;> exact h) (Keep.start _ _) ?_
      repeat (refine wpS_firm rfl (fun K hK => ?_); simp only [Keep]; go_simp; refine hK _ ?_; clear hK K)
      refine wpS_chain rfl ?_
      go_wp2_with (go_at_call 14; refine (Valid_at _ _ false _ H.out).mono ?_; rintro e w1 ⟨rfl, h1⟩)
      have HK1 := Lib.hid (Keep.below (Keep.start nowhere (w.alloc (.cells #[.int .i64 ty, .bool fs] 42))) h1)
      have HB1 := Lib.hid (gr_tr (gr_alloc w _) (gr_tr (gr_drew _) h1)); clear h1
      refine ⟨HK1.out, ?_⟩
      repeat (refine wpS_firm rfl (fun K hK => ?_); simp only [Keep]; go_simp; refine hK _ ?_; clear hK K)
      refine wpS_chain rfl ?_
      go_wp2_with fail
      refine ⟨HK1.out.alloc _, ?_⟩
      repeat (refine wpS_firm rfl (fun K hK => ?_); simp only [Keep]; go_simp; refine hK _ ?_; clear hK K)
      refine wpS_chain rfl ?_
      go_wp2_with (go_at_call 21; refine (first2_any _ _ _ _ _ _ (by simp [go_sem]; rfl) (by simp [go_sem]; rfl)).mono ?_; rintro e w2 ⟨rfl, h2⟩)
      refine ⟨(HK1.out.alloc _).below h2, ?_⟩
      repeat (refine wpS_firm rfl (fun K hK => ?_); simp only [Keep]; go_simp; refine hK _ ?_; clear hK K)
      unfold wpS
      go_wp2_with fail
      go_ret
      exact ⟨by rw [HF.out]; rfl, gr_tr (gr_tr HB1.out (gr_alloc _ _)) h2⟩
  · by_cases b2 : 0 < ty
    · have hq : (ty == 0) = false := by simp; omega
      have hf : Prot.err2 (!Prot.valid ty fs || (rq && ty == 0)) (decide (0 < ty) && decide ((l.length : Int) < 8)) = Prot.err2 false (decide ((l.length : Int) < 8)) := by rw [H.out, hq]; simp [b2]
      have HF := Lib.hid hf; clear hf
      cases rq
      all_goals
        have c0 : ∀ y : KeepT nowhere (w.alloc (.cells #[.int .i64 ty, .bool fs] 42)), y.val.cell? ⟨w.heap.size, 0, none⟩ = some (.int .i64 ty) := fun y => y.cell (by simp [go_sem]) id
        have c1 : ∀ y : KeepT nowhere (w.alloc (.cells #[.int .i64 ty, .bool fs] 42)), y.val.cell? ⟨w.heap.size, 1, none⟩ = some (.bool fs) := fun y => y.cell (by simp [go_sem]) id
        go_enter Try.func26, Try.ntmps26
        go_wp2_with fail
        refine wp_region_plan (Keep nowhere (w.alloc (.cells #[.int .i64 ty, .bool fs] 42))) [(true, 0), (true, 11), (true, 12), (true, 13), (false, 1), (true, 2), (true, 3), (true, 4), (true, 5), (true, 6), (true, 7), (true, 8), (true, 9), (true, 10), (true, 14), (true, 15), (true, 16), (true, 17), (true, 18), (false, 19), (false, 20), (true, 21)]
          (by kernel_rfl) (by kernel_rfl) (by intro c a d v w h; cases d <;> exact h) (Keep.start _ _) ?_
        repeat (refine wpS_firm rfl (fun K hK => ?_); simp only [Keep]; go_simp; refine hK _ ?_; clear hK K)
        refine wpS_chain rfl ?_
        go_wp2_with (go_at_call 14; refine (Valid_at _ _ true _ H.out).mono ?_; rintro e w1 ⟨rfl, h1⟩)
        have HK1 := Lib.hid (Keep.below (Keep.start nowhere (w.alloc (.cells #[.int .i64 ty, .bool fs] 42))) h1)
        have HB1 := Lib.hid (gr_tr (gr_alloc w _) (gr_tr (gr_drew _) h1)); clear h1
        refine ⟨HK1.out, ?_⟩
        repeat (refine wpS_firm rfl (fun K hK => ?_); simp only [Keep]; go_simp; refine hK _ ?_; clear hK K)
        refine wpS_chain rfl ?_
        go_wp2_with fail
        refine ⟨HK1.out.alloc _, ?_⟩
        repeat (refine wpS_firm rfl (fun K hK => ?_); simp only [Keep]; go_simp; refine hK _ ?_; clear hK K)
        refine wpS_chain rfl ?_
        go_wp2_with (go_at_call 21; refine (first2_any _ _ _ _ _ _ (by simp [go_sem]; rfl) (by simp [go_sem]; rfl)).mono ?_; rintro e w2 ⟨rfl, h2⟩)
        refine ⟨(HK1.out.alloc _).below h2, ?_⟩
        repeat (refine wpS_firm rfl (fun K hK => ?_); simp only [Keep]; go_simp; refine hK _ ?_; clear hK K)
        unfold wpS
        go_wp2_with fail
        go_ret
        exact ⟨by rw [HF.out]; rfl, gr_tr (gr_tr HB1.out (gr_alloc _ _)) h2⟩
    · obtain rfl : ty = 0 := by
        have := H.out
        simp [Prot.valid] at this; omega
      have HF := Lib.hid (show Prot.err2 (!Prot.valid 0 fs || (rq && (0 : Int) == 0)) (decide ((0 : Int) < 0) && decide ((l.length : Int) < 8)) = Prot.err2 rq false by rw [H.out]; simp)
      clear b2
      cases rq
      all_goals
        have c0 : ∀ y : KeepT nowhere (w.alloc (.cells #[.int .i64 0, .bool fs] 42)), y.val.cell? ⟨w.heap.size, 0, none⟩ = some (.int .i64 0) := fun y => y.cell (by simp [go_sem]) id
        have c1 : ∀ y : KeepT nowhere (w.alloc (.cells #[.int .i64 0, .bool fs] 42)), y.val.cell? ⟨w.heap.size, 1, none⟩ = some (.bool fs) := fun y => y.cell (by simp [go_sem]) id
        go_enter Try.func26, Try.ntmps26
        go_wp2_with fail
        refine wp_region_plan (Keep nowhere (w.alloc (.cells #[.int .i64 0, .bool fs] 42))) [(true, 0), (true, 11), (true, 12), (true, 13), (false, 1), (true, 2), (true, 3), (true, 4), (true, 5), (true, 6), (true, 7), (true, 8), (true, 9), (true, 10), (true, 14), (true, 15), (true, 16), (true, 17), (true, 18), (false, 19), (false, 20), (true, 21)]
          (by kernel_rfl) (by kernel_rfl) (by intro c a d v w h; cases d <;> exact h) (Keep.start _ _) ?_
        repeat (refine wpS_firm rfl (fun K hK => ?_); simp only [Keep]; go_simp; refine hK _ ?_; clear hK K)
        refine wpS_chain rfl ?_
        go_wp2_with (go_at_call 14; refine (Valid_at _ _ true _ H.out).mono ?_; rintro e w1 ⟨rfl, h1⟩)
        have HK1 := Lib.hid (Keep.below (Keep.start nowhere (w.alloc (.cells #[.int .i64 0, .bool fs] 42))) h1)
        have HB1 := Lib.hid (gr_tr (gr_alloc w _) (gr_tr (gr_drew _) h1)); clear h1
        refine ⟨HK1.out, ?_⟩
        repeat (refine wpS_firm rfl (fun K hK => ?_); simp only [Keep]; go_simp; refine hK _ ?_; clear hK K)
        refine wpS_chain rfl ?_
        go_wp2_with fail
        refine ⟨HK1.out.alloc _, ?_⟩
        repeat (refine wpS_firm rfl (fun K hK => ?_); simp only [Keep]; go_simp; refine hK _ ?_; clear hK K)
        refine wpS_chain rfl ?_
        go_wp2_with (go_at_call 21; refine (first2_any _ _ _ _ _ _ (by simp [go_sem]; rfl) (by simp [go_sem]; rfl)).mono ?_; rintro e w2 ⟨rfl, h2⟩)
        refine ⟨(HK1.out.alloc _).below h2, ?_⟩
        repeat (refine wpS_firm rfl (fun K hK => ?_); simp only [Keep]; go_simp; refine hK _ ?_; clear hK K)
        unfold wpS
        go_wp2_with fail
        go_ret
        exact ⟨by rw [HF.out]; rfl, gr_tr (gr_tr HB1.out (gr_alloc _ _)) h2⟩
end Go.Proofs.Ytpobkgkjfebhgaa
