/- The walks of capsuleref17: Valid, Wrong, place, Tag, Bytes. -/
import Derived.Test.YtmccihngbdopdaaProtG
namespace Go.Proofs.Ytmccihngbdopdaa
open Go.RowKit
set_option linter.unusedVariables false
set_option linter.unusedSimpArgs false

theorem rValid_any (ty : Int) (fs : Bool) (w : World) :
    Calls Try.prog 17 #[.agg #[.int .i64 ty, .bool fs]] w fun e w' => e = .returned (.bool (Prot.valid ty fs)) ∧ Below w.heap.size w w' := by
  obtain ⟨b1, h1⟩ : ∃ b, decide (0 ≤ ty) = b := ⟨_, rfl⟩
  obtain ⟨b2, h2⟩ : ∃ b, decide (ty ≤ 3) = b := ⟨_, rfl⟩
  obtain ⟨b3, h3⟩ : ∃ b, decide (0 < ty) = b := ⟨_, rfl⟩
  have hv : Prot.valid ty fs = ((b1 && b2) && (b3 || !fs)) := by
    rw [← h1, ← h2, ← h3]; unfold Prot.valid; rw [Bool.decide_and]
  rw [hv]
  have h1' : decide (ty ≥ 0) = b1 := h1
  have h3' : decide (ty > 0) = b3 := h3
  clear hv
  cases b1 <;> cases b2 <;> cases b3 <;> cases fs
  all_goals
    go_enter Try.func17, Try.ntmps17
    go_wp2
    go_ret
    exact ⟨rfl, gr_alloc _ _⟩
theorem rValid_at (ty : Int) (fs : Bool) (b : Bool) (w : World) (h : Prot.valid ty fs = b) :
    Calls Try.prog 17 #[.agg #[.int .i64 ty, .bool fs]] w fun e w' => e = .returned (.bool b) ∧ Below w.heap.size w w' := by
  subst h; exact rValid_any ty fs w
theorem place_any (ty : Int) (fs : Bool) (m : Value) (lm : List (BitVec 8)) (n : Nat) (w : World) (hm : BytesV w m lm) (hl : 8 ≤ lm.length) (hn : Prot.place fs lm.length = n) :
    Calls Try.prog 42 #[.agg #[.int .i64 ty, .bool fs], m] w fun e w' => e = .returned (.int .i64 n) ∧ Below w.heap.size w w' := by
  obtain ⟨a, c, rfl, _, _, _, _⟩ := hm
  have HN := Lib.hid hn; clear hn
  cases fs
  · have h8 : (lm.length : Int) - 8 = (n : Int) := by have := HN.out; simp [Prot.place] at this; omega
    go_enter Try.func42, Try.ntmps42
    go_wp2
    go_ret
    exact ⟨rfl, gr_alloc _ _⟩
  · obtain rfl : n = 0 := HN.out.symm
    go_enter Try.func42, Try.ntmps42
    go_wp2
    go_ret
    exact ⟨rfl, gr_alloc _ _⟩
theorem Wrong_any (ty : Int) (fs : Bool) (m : Value) (lm : List (BitVec 8)) (n : Int) (w : World) (hm : BytesV w m lm) (hn : Prot.wr ty fs false lm.length = n) :
    Calls Try.prog 23 #[.agg #[.int .i64 ty, .bool fs], m] w fun e w' => e = .returned (.int .i64 n) ∧ Below w.heap.size w w' := by
  obtain ⟨a, c, rfl, _, _, _, _⟩ := hm
  obtain ⟨b1, h1⟩ : ∃ b, Prot.valid ty fs = b := ⟨_, rfl⟩
  obtain ⟨b2, h2⟩ : ∃ b, decide (0 < ty) = b := ⟨_, rfl⟩
  obtain ⟨b3, h3⟩ : ∃ b, decide ((lm.length : Int) < 8) = b := ⟨_, rfl⟩
  have hr : n = Prot.err2 (!b1) (b2 && b3) := by rw [← hn, ← h1, ← h2, ← h3]; simp [Prot.wr]
  have H1 := Lib.hid h1; clear h1
  clear hn
  cases b1
  · have HR := Lib.hid hr; clear hr h2 h3
    go_enter Try.func23, Try.ntmps23
    go_wp2_with (go_at_call 17; refine (rValid_at _ _ _ _ H1.out).mono ?_; rintro e w1 ⟨rfl, hw1⟩; have B1 := Lib.hid (gr_tr (gr_alloc _ _) hw1); clear hw1)
    go_ret
    exact ⟨by rw [HR.out]; rfl, B1.out⟩
  · have HR := Lib.hid hr; clear hr
    have h2' : decide (ty > 0) = b2 := h2
    cases b2
    · clear h3
      go_enter Try.func23, Try.ntmps23
      go_wp2_with (go_at_call 17; refine (rValid_at _ _ _ _ H1.out).mono ?_; rintro e w1 ⟨rfl, hw1⟩; have d0 : w1.cell? ⟨w.heap.size, 0, none⟩ = some (.int .i64 ty) := below_get hw1 (by simp [go_sem]); have B1 := Lib.hid (gr_tr (gr_alloc _ _) hw1); clear hw1)
      go_ret
      exact ⟨by rw [HR.out]; rfl, B1.out⟩
    · cases b3
      all_goals
        go_enter Try.func23, Try.ntmps23
        go_wp2_with (go_at_call 17; refine (rValid_at _ _ _ _ H1.out).mono ?_; rintro e w1 ⟨rfl, hw1⟩; have d0 : w1.cell? ⟨w.heap.size, 0, none⟩ = some (.int .i64 ty) := below_get hw1 (by simp [go_sem]); have B1 := Lib.hid (gr_tr (gr_alloc _ _) hw1); clear hw1)
        go_ret
        exact ⟨by rw [HR.out]; rfl, B1.out⟩
theorem rTag_any (ty : Int) (fs : Bool) (t : BitVec 32) (i : Int) (w : World) :
    Calls Try.prog 12 #[.agg #[.int .i64 ty, .bool fs], .int .u32 (uv t), .int .i64 i] w fun e w' => e = .returned (.tuple #[.int .u32 (uv (Prot.tag ty fs t i)), .int .i64 (Prot.te ty fs i)]) ∧ Below w.heap.size w w' := by
  obtain ⟨b1, h1⟩ : ∃ b, Prot.valid ty fs = b := ⟨_, rfl⟩
  obtain ⟨b2, h2⟩ : ∃ b, (ty == 0) = b := ⟨_, rfl⟩
  obtain ⟨b3, h3⟩ : ∃ b, decide (i < 0) = b := ⟨_, rfl⟩
  obtain ⟨b4, h4⟩ : ∃ b, (ty == 3) = b := ⟨_, rfl⟩
  have hte : Prot.te ty fs i = Prot.err1 (!b1 || b2 || b3) := by rw [← h1, ← h2, ← h3]; rfl
  have htag : Prot.tag ty fs t i = if Prot.err1 (!b1 || b2 || b3) = 0 then (if b4 then t else t + BitVec.ofInt 32 i) else 0#32 := by
    unfold Prot.tag; rw [hte, ← h4]; simp
  rw [hte, htag]
  have H1 := Lib.hid h1; clear h1 hte htag
  cases b1
  · clear h2 h3 h4
    go_enter Try.func12, Try.ntmps12
    go_wp2_with (go_at_call 17; refine (rValid_at _ _ _ _ H1.out).mono ?_; rintro e w1 ⟨rfl, hw1⟩; have d0 : w1.cell? ⟨w.heap.size, 0, none⟩ = some (.int .i64 ty) := below_get hw1 (by simp [go_sem]); have B1 := Lib.hid (gr_tr (gr_alloc _ _) hw1); clear hw1)
    go_ret2
    exact ⟨rfl, B1.out⟩
  · cases b2
    · cases b3
      · cases b4
        all_goals
          go_enter Try.func12, Try.ntmps12
          go_wp2_with (go_at_call 17; refine (rValid_at _ _ _ _ H1.out).mono ?_; rintro e w1 ⟨rfl, hw1⟩; have d0 : w1.cell? ⟨w.heap.size, 0, none⟩ = some (.int .i64 ty) := below_get hw1 (by simp [go_sem]); have B1 := Lib.hid (gr_tr (gr_alloc _ _) hw1); clear hw1)
          go_ret2
          exact ⟨by first | rfl | simp [Prot.err1], B1.out⟩
      · clear h4
        go_enter Try.func12, Try.ntmps12
        go_wp2_with (go_at_call 17; refine (rValid_at _ _ _ _ H1.out).mono ?_; rintro e w1 ⟨rfl, hw1⟩; have d0 : w1.cell? ⟨w.heap.size, 0, none⟩ = some (.int .i64 ty) := below_get hw1 (by simp [go_sem]); have B1 := Lib.hid (gr_tr (gr_alloc _ _) hw1); clear hw1)
        go_ret2
        exact ⟨rfl, B1.out⟩
    · clear h3 h4
      go_enter Try.func12, Try.ntmps12
      go_wp2_with (go_at_call 17; refine (rValid_at _ _ _ _ H1.out).mono ?_; rintro e w1 ⟨rfl, hw1⟩; have d0 : w1.cell? ⟨w.heap.size, 0, none⟩ = some (.int .i64 ty) := below_get hw1 (by simp [go_sem]); have B1 := Lib.hid (gr_tr (gr_alloc _ _) hw1); clear hw1)
      go_ret2
      exact ⟨rfl, B1.out⟩
theorem div256 (g : BitVec 16) : (BitVec.ofInt 16 ((uv g).tdiv 256)).setWidth 8 = (g.setWidth 64 >>> (8 * 1)).setWidth 8 := by
  have h : (uv g).tdiv 256 = ((g.toNat / 256 : Nat) : Int) := rfl
  have := g.isLt
  rw [h]
  apply BitVec.eq_of_toNat_eq
  simp [BitVec.toNat_ofInt, Nat.shiftRight_eq_div_pow]
  omega
theorem mod256 (g : BitVec 16) : BitVec.ofInt 8 ((uv g).tmod 256) = (g.setWidth 64 >>> (8 * 0)).setWidth 8 := by
  have h : (uv g).tmod 256 = ((g.toNat % 256 : Nat) : Int) := rfl
  have := g.isLt
  rw [h]
  apply BitVec.eq_of_toNat_eq
  simp [BitVec.toNat_ofInt]
  omega
theorem part32 (r : BitVec 32) (k : Nat) : (r >>> k).setWidth 8 = (r.setWidth 64 >>> k).setWidth 8 := by
  apply BitVec.eq_of_getLsbD_eq
  intro i hi
  simp only [BitVec.getLsbD_setWidth, BitVec.getLsbD_ushiftRight, hi, decide_true, Bool.true_and]
  by_cases h : k + i < 64
  · simp [h]
  · simp [h, BitVec.getLsbD_of_ge r (k + i) (by omega)]
theorem bytes_list (g a : BitVec 16) (r : BitVec 32) : Prot.bytes g a r =
    [(BitVec.ofInt 16 ((uv g).tdiv 256)).setWidth 8, BitVec.ofInt 8 ((uv g).tmod 256), (BitVec.ofInt 16 ((uv a).tdiv 256)).setWidth 8, BitVec.ofInt 8 ((uv a).tmod 256),
      (r >>> 24).setWidth 8, (r >>> 16).setWidth 8, (r >>> 8).setWidth 8, r.setWidth 8] := by
  have hr : r.setWidth 8 = (r.setWidth 64 >>> 0).setWidth 8 := by rw [← part32]; rfl
  rw [div256, div256, mod256, mod256, part32, part32, part32, hr]
  rfl
theorem own_lit (w : World) (cs : List Value) (e : TypeId) (base n : Nat) (hb : base ≤ w.heap.size) (hn : cs.length = n) (hm : n ≤ maxLen) :
    (w.alloc (.cells cs.toArray e)).ownsRow base e 1 (.slice (some ⟨w.heap.size, 0, none⟩) n n) n cs :=
  ⟨by rw [hn, Nat.mul_one], .inr ⟨w.heap.size, n, cs.toArray, rfl, hb, heap_alloc_new w _, Nat.le_refl _, hm, by rw [List.size_toArray, hn, Nat.mul_one], by rw [Nat.mul_one, ← hn]; simp⟩⟩
theorem Bytes_any (g a : BitVec 16) (r : BitVec 32) (w : World) :
    Calls Try.prog 13 #[.agg #[.int .u16 (uv g), .int .u16 (uv a), .int .u32 (uv r)]] w fun e w' => ∃ u, e = .returned u ∧ w'.ownsRow w.heap.size 5 1 u 8 (by8 (Prot.bytes g a r)) ∧ Below w.heap.size w w' := by
  have hb := bytes_list g a r
  have HB := Lib.hid hb; clear hb
  go_enter Try.func13, Try.ntmps13
  go_wp2
  go_ret
  refine ⟨_, rfl, ?_, gr_tr (gr_alloc _ _) (gr_alloc _ _)⟩
  rw [HB.out]
  have hx := own_lit (w.alloc (.cells #[.int .u16 (uv g), .int .u16 (uv a), .int .u32 (uv r)] 25)) (by8 [(BitVec.ofInt 16 ((uv g).tdiv 256)).setWidth 8, BitVec.ofInt 8 ((uv g).tmod 256), (BitVec.ofInt 16 ((uv a).tdiv 256)).setWidth 8, BitVec.ofInt 8 ((uv a).tmod 256),
      (r >>> 24).setWidth 8, (r >>> 16).setWidth 8, (r >>> 8).setWidth 8, r.setWidth 8]) 5 w.heap.size 8 (by simp) rfl (by decide)
  rw [show (w.alloc (.cells #[.int .u16 (uv g), .int .u16 (uv a), .int .u32 (uv r)] 25)).heap.size = w.heap.size + 1 by simp] at hx
  exact hx
end Go.Proofs.Ytmccihngbdopdaa
