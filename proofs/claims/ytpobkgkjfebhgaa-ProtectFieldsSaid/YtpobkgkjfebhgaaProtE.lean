/- The walks of package protect: escapes, Tag, Guard. -/
import Derived.Test.YtpobkgkjfebhgaaProtD
import Derived.Test.YtpobkgkjfebhgaaDigestD
namespace Go.Proofs.Ytpobkgkjfebhgaa
open Go.RowKit
set_option linter.unusedVariables false
set_option linter.unusedSimpArgs false

namespace Prot
def esc (ty : Int) (a : BitVec 16) (r : BitVec 32) : Bool := (uv a == 65535) && ((ty != 3) || (uv r == 4294967295))
def wr (ty : Int) (fs rq : Bool) (n : Nat) : Int := err2 (!valid ty fs || (rq && ty == 0)) (decide (0 < ty) && decide ((n : Int) < 8))
def te (ty : Int) (fs : Bool) (i : Int) : Int := err1 (!valid ty fs || ty == 0 || decide (i < 0))
def tag (ty : Int) (fs : Bool) (t : BitVec 32) (i : Int) : BitVec 32 := if te ty fs i = 0 then (if ty = 3 then t else t + BitVec.ofInt 32 i) else 0#32
def guard (ty : Int) (fs : Bool) (d m : List (BitVec 8)) : BitVec 16 := if ty = 0 then Dig.crc16 d else Dig.crc16 (d ++ m.take (place fs m.length))
theorem valid_range {ty : Int} {fs : Bool} (h : valid ty fs = true) : 0 ≤ ty ∧ ty ≤ 3 := by
  simp only [valid, Bool.and_eq_true, decide_eq_true_eq] at h; exact h.1
theorem wr_cases (ty : Int) (fs rq : Bool) (n : Nat) : wr ty fs rq n = 0 ∨ wr ty fs rq n = 2 ∨ wr ty fs rq n = 4 := by
  unfold wr err2; split
  · exact .inr (.inl rfl)
  · split
    · exact .inr (.inr rfl)
    · exact .inl rfl
theorem wr_ok {ty : Int} {fs rq : Bool} {n : Nat} (h : wr ty fs rq n = 0) : valid ty fs = true ∧ (rq = true → ty ≠ 0) ∧ (0 < ty → 8 ≤ n) := by
  unfold wr err2 at h
  split at h
  · omega
  · split at h
    · omega
    · rename_i h1 h2
      simp only [Bool.or_eq_true, Bool.not_eq_true', Bool.and_eq_true, beq_iff_eq, decide_eq_true_eq] at h1 h2
      refine ⟨?_, fun e e0 => h1 (.inr ⟨e, e0⟩), fun e => ?_⟩
      · cases hv : valid ty fs
        · exact absurd (.inl hv) h1
        · rfl
      · omega
end Prot

theorem below_get {w w' : World} {b o : Nat} {v : Value} (h : Below w.heap.size w w') (hc : w.cell? ⟨b, o, none⟩ = some v) : w'.cell? ⟨b, o, none⟩ = some v := by
  rw [h.cell (p := ⟨b, o, none⟩) (block_lt_of_cell hc)]; exact hc
theorem escapes_any (ty : Int) (fs : Bool) (g a : BitVec 16) (r : BitVec 32) (b : Bool) (w : World) (hb : Prot.esc ty a r = b) :
    Calls Try.prog 28 #[.agg #[.int .i64 ty, .bool fs], .agg #[.int .u16 (uv g), .int .u16 (uv a), .int .u32 (uv r)]] w fun e w' => e = .returned (.bool b) ∧ Below w.heap.size w w' := by
  subst hb
  obtain ⟨b1, h1⟩ : ∃ b1, (uv a == 65535) = b1 := ⟨_, rfl⟩
  obtain ⟨b2, h2⟩ : ∃ b2, (ty != 3) = b2 := ⟨_, rfl⟩
  obtain ⟨b3, h3⟩ : ∃ b3, (uv r == 4294967295) = b3 := ⟨_, rfl⟩
  have hr : Prot.esc ty a r = (b1 && (b2 || b3)) := by rw [← h1, ← h2, ← h3]; rfl
  have HR := Lib.hid hr; clear hr
  cases b1 <;> cases b2 <;> cases b3
  all_goals
    go_enter Try.func28, Try.ntmps28
    go_wp2
    go_ret
    exact ⟨by rw [HR.out]; rfl, gr_tr (gr_alloc _ _) (gr_alloc _ _)⟩

theorem wrong_at (ty : Int) (fs : Bool) (v : Value) (l : List (BitVec 8)) (rq : Bool) (n : Int) (w : World) (hv : BytesV w v l) (hn : Prot.wr ty fs rq l.length = n) :
    Calls Try.prog 26 #[.agg #[.int .i64 ty, .bool fs], v, .bool rq] w fun e w' => e = .returned (.int .i64 n) ∧ Below w.heap.size w w' := by
  subst hn; exact wrong_any ty fs v l rq w hv
theorem first1_at (a : Bool) (b o c : Nat) (n : Int) (w : World) (h : w.cell? ⟨b, o, none⟩ = some (.bool a)) (hn : Prot.err1 a = n) :
    Calls Try.prog 21 #[.slice (some ⟨b, o, none⟩) 1 c] w fun e w' => e = .returned (.int .i64 n) ∧ Below w.heap.size w w' := by
  subst hn; exact first1_any a b o c w h

set_option maxHeartbeats 1600000 in
theorem Tag_any (ty : Int) (fs : Bool) (t : BitVec 32) (i : Int) (w : World) (hi : -9223372036854775808 ≤ i ∧ i ≤ 9223372036854775807) :
    Calls Try.prog 8 #[.agg #[.int .i64 ty, .bool fs], .int .u32 (uv t), .int .i64 i] w fun e w' => e = .returned (.tuple #[.int .u32 (uv (Prot.tag ty fs t i)), .int .i64 (Prot.te ty fs i)]) ∧ Below w.heap.size w w' := by
  obtain ⟨b1, h1⟩ : ∃ b, Prot.valid ty fs = b := ⟨_, rfl⟩
  obtain ⟨b2, h2⟩ : ∃ b, (ty == 0) = b := ⟨_, rfl⟩
  obtain ⟨b3, h3⟩ : ∃ b, decide (i < 0) = b := ⟨_, rfl⟩
  obtain ⟨b4, h4⟩ : ∃ b, (ty == 3) = b := ⟨_, rfl⟩
  have hte : Prot.te ty fs i = Prot.err1 (!b1 || b2 || b3) := by rw [← h1, ← h2, ← h3]; rfl
  have htag : Prot.tag ty fs t i = if Prot.err1 (!b1 || b2 || b3) = 0 then (if b4 then t else t + BitVec.ofInt 32 i) else 0#32 := by
    unfold Prot.tag; rw [hte, ← h4]; simp
  rw [hte, htag]
  have H1 := Lib.hid h1; clear h1 hte htag hi
  cases b1
  · clear h2 h3 h4
    go_enter Try.func8, Try.ntmps8
    go_wp2_with (first
      | (go_at_call 14; refine (Valid_at _ _ _ _ H1.out).mono ?_; rintro e w1 ⟨rfl, hw1⟩; have d0 : w1.cell? ⟨w.heap.size, 0, none⟩ = some (.int .i64 ty) := below_get hw1 (by simp [go_sem]); have B1 := Lib.hid hw1; clear hw1)
      | (go_at_call 21; refine (first1_at true _ _ _ 2 _ (by simp [go_sem]) rfl).mono ?_; rintro e w2 ⟨rfl, hw2⟩; have d2 := below_get (gr_tr (gr_alloc _ _) hw2) d0; have B2 := Lib.hid hw2; clear hw2))
    go_ret2
    exact ⟨rfl, gr_tr (gr_alloc _ _) (gr_tr B1.out (gr_tr (gr_alloc _ _) B2.out))⟩
  · cases b2
    · cases b3
      · cases b4
        · go_enter Try.func8, Try.ntmps8
          go_wp2_with (first
            | (go_at_call 14; refine (Valid_at _ _ _ _ H1.out).mono ?_; rintro e w1 ⟨rfl, hw1⟩; have d0 : w1.cell? ⟨w.heap.size, 0, none⟩ = some (.int .i64 ty) := below_get hw1 (by simp [go_sem]); have B1 := Lib.hid hw1; clear hw1)
            | (go_at_call 21; refine (first1_at false _ _ _ 0 _ (by simp [go_sem]) rfl).mono ?_; rintro e w2 ⟨rfl, hw2⟩; have d2 := below_get (gr_tr (gr_alloc _ _) hw2) d0; have B2 := Lib.hid hw2; clear hw2))
          go_ret2
          exact ⟨rfl, gr_tr (gr_alloc _ _) (gr_tr B1.out (gr_tr (gr_alloc _ _) B2.out))⟩
        · go_enter Try.func8, Try.ntmps8
          go_wp2_with (first
            | (go_at_call 14; refine (Valid_at _ _ _ _ H1.out).mono ?_; rintro e w1 ⟨rfl, hw1⟩; have d0 : w1.cell? ⟨w.heap.size, 0, none⟩ = some (.int .i64 ty) := below_get hw1 (by simp [go_sem]); have B1 := Lib.hid hw1; clear hw1)
            | (go_at_call 21; refine (first1_at false _ _ _ 0 _ (by simp [go_sem]) rfl).mono ?_; rintro e w2 ⟨rfl, hw2⟩; have d2 := below_get (gr_tr (gr_alloc _ _) hw2) d0; have B2 := Lib.hid hw2; clear hw2))
          go_ret2
          exact ⟨by simp [Prot.err1], gr_tr (gr_alloc _ _) (gr_tr B1.out (gr_tr (gr_alloc _ _) B2.out))⟩
      · clear h4
        go_enter Try.func8, Try.ntmps8
        go_wp2_with (first
          | (go_at_call 14; refine (Valid_at _ _ _ _ H1.out).mono ?_; rintro e w1 ⟨rfl, hw1⟩; have d0 : w1.cell? ⟨w.heap.size, 0, none⟩ = some (.int .i64 ty) := below_get hw1 (by simp [go_sem]); have B1 := Lib.hid hw1; clear hw1)
          | (go_at_call 21; refine (first1_at true _ _ _ 2 _ (by simp [go_sem]) rfl).mono ?_; rintro e w2 ⟨rfl, hw2⟩; have d2 := below_get (gr_tr (gr_alloc _ _) hw2) d0; have B2 := Lib.hid hw2; clear hw2))
        go_ret2
        exact ⟨rfl, gr_tr (gr_alloc _ _) (gr_tr B1.out (gr_tr (gr_alloc _ _) B2.out))⟩
    · clear h3 h4
      go_enter Try.func8, Try.ntmps8
      go_wp2_with (first
        | (go_at_call 14; refine (Valid_at _ _ _ _ H1.out).mono ?_; rintro e w1 ⟨rfl, hw1⟩; have d0 : w1.cell? ⟨w.heap.size, 0, none⟩ = some (.int .i64 ty) := below_get hw1 (by simp [go_sem]); have B1 := Lib.hid hw1; clear hw1)
        | (go_at_call 21; refine (first1_at true _ _ _ 2 _ (by simp [go_sem]) rfl).mono ?_; rintro e w2 ⟨rfl, hw2⟩; have d2 := below_get (gr_tr (gr_alloc _ _) hw2) d0; have B2 := Lib.hid hw2; clear hw2))
      go_ret2
      exact ⟨rfl, gr_tr (gr_alloc _ _) (gr_tr B1.out (gr_tr (gr_alloc _ _) B2.out))⟩

theorem CRC16_at (v : Value) (l : List (BitVec 8)) (w : World) (n : Int) (hp : BytesV w v l) (hn : uv (Dig.crc16 l) = n) :
    Calls Try.prog 30 #[v] w fun e w' => e = .returned (.int .u16 n) ∧ Below w.heap.size w w' := by
  subst hn; exact CRC16_any v l w hp
set_option maxHeartbeats 1600000 in
theorem Guard_any (ty : Int) (fs : Bool) (v m : Value) (lv lm : List (BitVec 8)) (w : World) (hv : BytesV w v lv) (hm : BytesV w m lm) (hs : lv.length + lm.length ≤ 140737488355328) :
    Calls Try.prog 22 #[.agg #[.int .i64 ty, .bool fs], v, m] w fun e w' => e = .returned (.tuple #[.int .u16 (if Prot.wr ty fs false lm.length = 0 then uv (Prot.guard ty fs lv lm) else 0), .int .i64 (Prot.wr ty fs false lm.length)]) ∧ Below w.heap.size w w' := by
  obtain ⟨n, hn⟩ : ∃ n, Prot.wr ty fs false lm.length = n := ⟨_, rfl⟩
  rw [hn]
  have HN := Lib.hid hn; clear hn
  have HV := Lib.hid hv; clear hv
  have HM := Lib.hid hm; clear hm
  have HS := Lib.hid hs; clear hs
  have hc := HN.out ▸ Prot.wr_cases ty fs false lm.length
  rcases hc with rfl | rfl | rfl
  · obtain ⟨hok, -, h8⟩ := Prot.wr_ok HN.out
    have H8 := Lib.hid h8; clear h8
    have hr := (Prot.valid_range hok).1; clear hok
    by_cases h0 : ty = 0
    · subst h0
      have hg : uv (Prot.guard 0 fs lv lm) = uv (Dig.crc16 lv) := rfl
      go_enter Try.func22, Try.ntmps22
      go_wp2_with (first
        | (go_at_call 26; refine (wrong_at _ _ _ _ _ 0 _ (HM.out.below (gr_alloc _ _)) HN.out).mono ?_; rintro e w1 ⟨rfl, hw1⟩; have d0 : w1.cell? ⟨w.heap.size, 0, none⟩ = some (.int .i64 0) := below_get hw1 (by simp [go_sem]); have B1 := Lib.hid (gr_tr (gr_alloc _ _) hw1); clear hw1)
        | (go_at_call 30; refine (CRC16_any _ _ _ (HV.out.below B1.out)).mono ?_; rintro e w2 ⟨rfl, hw2⟩; have B2 := Lib.hid (gr_tr B1.out hw2); clear hw2))
      go_ret2
      exact ⟨rfl, B2.out⟩
    · have hq : (ty == 0) = false := by simpa using h0
      have hl8 : 8 ≤ lm.length := H8.out (by omega)
      have HL8 := Lib.hid hl8; clear hl8
      have hg : Prot.guard ty fs lv lm = Dig.crc16 (lv ++ lm.take (Prot.place fs lm.length)) := by unfold Prot.guard; rw [if_neg h0]
      have HG := Lib.hid hg; clear hg hr h0
      have hfl : [lv, lm.take (Prot.place fs lm.length)].flatten.length ≤ 140737488355328 := by
        have := HS.out; simp only [List.flatten_cons, List.flatten_nil, List.length_append, List.length_take, List.length_nil]; omega
      have HFL := Lib.hid hfl; clear hfl
      obtain ⟨av, nv', cv, rfl⟩ := HV.out.shape
      go_enter Try.func22, Try.ntmps22
      go_wp2_with (first
        | (go_at_call 26; refine (wrong_at _ _ _ _ _ 0 _ (HM.out.below (gr_alloc _ _)) HN.out).mono ?_; rintro e w1 ⟨rfl, hw1⟩; have d0 : w1.cell? ⟨w.heap.size, 0, none⟩ = some (.int .i64 ty) := below_get hw1 (by simp [go_sem]); have d1 : w1.cell? ⟨w.heap.size, 1, none⟩ = some (.bool fs) := below_get hw1 (by simp [go_sem]); have B1 := Lib.hid (gr_tr (gr_alloc _ _) hw1); clear hw1)
        | (go_at_call 24; refine (parts_any _ _ _ _ _ (HM.out.below B1.out) HL8.out).mono ?_; rintro e w2 ⟨u1, u2, u3, rfl, hu1, hu2, hu3, hw2⟩; have B2 := Lib.hid (gr_tr B1.out hw2); have U1 := Lib.hid hu1; clear hw2 hu1 hu2 hu3; obtain ⟨au, nu, cu, rfl⟩ := U1.out.shape; have hp := PartsV.lit (w := w2) #[.slice av nv' cv, .slice au nu cu] 46 (0, 0) [lv, lm.take (Prot.place fs lm.length)] 2 rfl rfl (by omega) (lits2 (HV.out.below B2.out) U1.out); have HP := Lib.hid hp; clear hp)
        | (go_at_call 25; refine (joined_any _ _ _ HP.out HFL.out).mono ?_; rintro e w3 ⟨u4, rfl, hu4, hw3⟩; have U4 := Lib.hid hu4; have B3 := Lib.hid (gr_tr B2.out (gr_tr (gr_alloc _ _) hw3)); clear hu4 hw3)
        | (go_at_call 30; refine (CRC16_any _ _ _ U4.out).mono ?_; rintro e w4 ⟨rfl, hw4⟩; have B4 := Lib.hid (gr_tr B3.out hw4); clear hw4))
      go_ret2
      exact ⟨by rw [HG.out]; rfl, B4.out⟩
  all_goals
    go_enter Try.func22, Try.ntmps22
    go_wp2_with (first
      | (go_at_call 26; refine (wrong_at _ _ _ _ _ _ _ (HM.out.below (gr_alloc _ _)) HN.out).mono ?_; rintro e w1 ⟨rfl, hw1⟩; have B1 := Lib.hid (gr_tr (gr_alloc _ _) hw1); clear hw1))
    go_ret2
    exact ⟨rfl, B1.out⟩
end Go.Proofs.Ytpobkgkjfebhgaa
