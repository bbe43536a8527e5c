/- Log pages: entries of the error log, health, notices: cells, bytes, what is read back. Printed by genlogs.py. -/
import Derived.Test.YthnnopjakpjoeaaDoorLogMath
import Derived.Test.YthnnopjakpjoeaaDoorOpenG
namespace Go.Proofs.YthnnopjakpjoeaaDoor
open Go.RowKit Lg Go.ChangeShapes Go.WideShapes Go.ChangeAt
set_option linter.unusedVariables false
set_option linter.unusedSimpArgs false
structure St where
  typ : BitVec 8
  code : BitVec 8
  more : Bool
  never : Bool
def St.cells (x : St) : List Value := [.int .u8 (uv x.typ), .int .u8 (uv x.code), .bool x.more, .bool x.never]
def St.R (w : World) (x : St) : Prop := True ∧ True ∧ True ∧ True
theorem St.cells_len : ∀ y, (St.cells y).length = 4 := fun _ => rfl
set_option maxRecDepth 100000 in
theorem opens_St (w : World) : Opens Tryd.prog w 27 St St.cells (St.R w) := by
  intro H enc sp held fuel cs x h
  obtain ⟨hl, hfs⟩ := trod_fields Tryd.underlying27 h
  rw [show Tryd.prog.cellsOf 27 = 4 by kernel_rfl] at hl
  obtain ⟨y0, a0, r0⟩ := opens_field hfs 0 _ rfl 0 1 rfl (by kernel_rfl) (opens_u8 Tryd.underlying5)
  obtain ⟨y1, a1, r1⟩ := opens_field hfs 1 _ rfl 1 1 rfl (by kernel_rfl) (opens_u8 Tryd.underlying5)
  obtain ⟨y2, a2, r2⟩ := opens_field hfs 2 _ rfl 2 1 rfl (by kernel_rfl) (opens_bool Tryd.underlying4)
  obtain ⟨y3, a3, r3⟩ := opens_field hfs 3 _ rfl 3 1 rfl (by kernel_rfl) (opens_bool Tryd.underlying4)
  have e := (glue a0 (by decide : 0 + 1 = 1) (glue a1 (by decide : 1 + 1 = 2) (glue a2 (by decide : 2 + 1 = 3) (glue a3 (by decide : 3 + 1 = 4) (glue_end hl)))))
  rw [List.drop_zero] at e
  exact ⟨⟨y0, y1, y2, y3⟩, e, ⟨r0, r1, r2, r3⟩⟩
structure Er where
  count : BitVec 64
  queue : BitVec 16
  id : BitVec 16
  st : St
  loc : BitVec 16
  lba : BitVec 64
  nsid : BitVec 32
  spec : BitVec 64
def Er.cells (x : Er) : List Value := [.int .u64 (uv x.count)] ++ ([.int .u16 (uv x.queue)] ++ ([.int .u16 (uv x.id)] ++ ((St.cells x.st) ++ ([.int .u16 (uv x.loc)] ++ ([.int .u64 (uv x.lba)] ++ ([.int .u32 (uv x.nsid)] ++ ([.int .u64 (uv x.spec)] ++ ([]))))))))
def Er.R (w : World) (x : Er) : Prop := True ∧ True ∧ True ∧ St.R w x.st ∧ True ∧ True ∧ True ∧ True
set_option maxRecDepth 100000 in
theorem opens_Er (w : World) : Opens Tryd.prog w 57 Er Er.cells (Er.R w) := by
  intro H enc sp held fuel cs x h
  obtain ⟨hl, hfs⟩ := trod_fields Tryd.underlying57 h
  rw [show Tryd.prog.cellsOf 57 = 11 by kernel_rfl] at hl
  obtain ⟨y0, a0, r0⟩ := opens_field hfs 0 _ rfl 0 1 rfl (by kernel_rfl) (opens_u64 Tryd.underlying23)
  obtain ⟨y1, a1, r1⟩ := opens_field hfs 1 _ rfl 1 1 rfl (by kernel_rfl) (opens_u16 Tryd.underlying36)
  obtain ⟨y2, a2, r2⟩ := opens_field hfs 2 _ rfl 2 1 rfl (by kernel_rfl) (opens_u16 Tryd.underlying36)
  obtain ⟨y3, a3, r3⟩ := opens_field hfs 3 _ rfl 3 4 rfl (by kernel_rfl) ((opens_St w))
  obtain ⟨y4, a4, r4⟩ := opens_field hfs 4 _ rfl 7 1 rfl (by kernel_rfl) (opens_u16 Tryd.underlying36)
  obtain ⟨y5, a5, r5⟩ := opens_field hfs 5 _ rfl 8 1 rfl (by kernel_rfl) (opens_u64 Tryd.underlying23)
  obtain ⟨y6, a6, r6⟩ := opens_field hfs 6 _ rfl 9 1 rfl (by kernel_rfl) (opens_u32 Tryd.underlying24)
  obtain ⟨y7, a7, r7⟩ := opens_field hfs 7 _ rfl 10 1 rfl (by kernel_rfl) (opens_u64 Tryd.underlying23)
  have e := (glue a0 (by decide : 0 + 1 = 1) (glue a1 (by decide : 1 + 1 = 2) (glue a2 (by decide : 2 + 1 = 3) (glue a3 (by decide : 3 + 4 = 7) (glue a4 (by decide : 7 + 1 = 8) (glue a5 (by decide : 8 + 1 = 9) (glue a6 (by decide : 9 + 1 = 10) (glue a7 (by decide : 10 + 1 = 11) (glue_end hl)))))))))
  rw [List.drop_zero] at e
  exact ⟨⟨y0, y1, y2, y3, y4, y5, y6, y7⟩, e, ⟨r0, r1, r2, r3, r4, r5, r6, r7⟩⟩
structure Hl where
  warning : BitVec 8
  temperature : BitVec 16
  spare : BitVec 8
  threshold : BitVec 8
  used : BitVec 8
  counters : List (BitVec 64)
def Hl.cells (x : Hl) : List Value := [.int .u8 (uv x.warning)] ++ ([.int .u16 (uv x.temperature)] ++ ([.int .u8 (uv x.spare)] ++ ([.int .u8 (uv x.threshold)] ++ ([.int .u8 (uv x.used)] ++ ((x.counters.flatMap (fun y : BitVec 64 => [.int .u64 (uv y)])) ++ ([]))))))
def Hl.R (w : World) (x : Hl) : Prop := True ∧ True ∧ True ∧ True ∧ True ∧ (x.counters.length = 10 ∧ ∀ y ∈ x.counters, (fun _ : BitVec 64 => True) y)
set_option maxRecDepth 100000 in
theorem opens_Hl (w : World) : Opens Tryd.prog w 132 Hl Hl.cells (Hl.R w) := by
  intro H enc sp held fuel cs x h
  obtain ⟨hl, hfs⟩ := trod_fields Tryd.underlying132 h
  rw [show Tryd.prog.cellsOf 132 = 15 by kernel_rfl] at hl
  obtain ⟨y0, a0, r0⟩ := opens_field hfs 0 _ rfl 0 1 rfl (by kernel_rfl) (opens_u8 Tryd.underlying5)
  obtain ⟨y1, a1, r1⟩ := opens_field hfs 1 _ rfl 1 1 rfl (by kernel_rfl) (opens_u16 Tryd.underlying36)
  obtain ⟨y2, a2, r2⟩ := opens_field hfs 2 _ rfl 2 1 rfl (by kernel_rfl) (opens_u8 Tryd.underlying5)
  obtain ⟨y3, a3, r3⟩ := opens_field hfs 3 _ rfl 3 1 rfl (by kernel_rfl) (opens_u8 Tryd.underlying5)
  obtain ⟨y4, a4, r4⟩ := opens_field hfs 4 _ rfl 4 1 rfl (by kernel_rfl) (opens_u8 Tryd.underlying5)
  obtain ⟨y5, a5, r5⟩ := opens_field hfs 5 _ rfl 5 10 rfl (by kernel_rfl) ((opens_array (k := 1) Tryd.underlying130 (by kernel_rfl) (by kernel_rfl) (fun _ => rfl) (opens_u64 Tryd.underlying23)))
  have e := (glue a0 (by decide : 0 + 1 = 1) (glue a1 (by decide : 1 + 1 = 2) (glue a2 (by decide : 2 + 1 = 3) (glue a3 (by decide : 3 + 1 = 4) (glue a4 (by decide : 4 + 1 = 5) (glue a5 (by decide : 5 + 10 = 15) (glue_end hl)))))))
  rw [List.drop_zero] at e
  exact ⟨⟨y0, y1, y2, y3, y4, y5⟩, e, ⟨r0, r1, r2, r3, r4, r5⟩⟩
structure No where
  count : BitVec 64
  kind : BitVec 8
  avail : BitVec 8
  nsid : BitVec 32
def No.cells (x : No) : List Value := [.int .u64 (uv x.count), .int .u8 (uv x.kind), .int .u8 (uv x.avail), .int .u32 (uv x.nsid)]
def No.R (w : World) (x : No) : Prop := True ∧ True ∧ True ∧ True
theorem No.cells_len : ∀ y, (No.cells y).length = 4 := fun _ => rfl
set_option maxRecDepth 100000 in
theorem opens_No (w : World) : Opens Tryd.prog w 113 No No.cells (No.R w) := by
  intro H enc sp held fuel cs x h
  obtain ⟨hl, hfs⟩ := trod_fields Tryd.underlying113 h
  rw [show Tryd.prog.cellsOf 113 = 4 by kernel_rfl] at hl
  obtain ⟨y0, a0, r0⟩ := opens_field hfs 0 _ rfl 0 1 rfl (by kernel_rfl) (opens_u64 Tryd.underlying23)
  obtain ⟨y1, a1, r1⟩ := opens_field hfs 1 _ rfl 1 1 rfl (by kernel_rfl) (opens_u8 Tryd.underlying5)
  obtain ⟨y2, a2, r2⟩ := opens_field hfs 2 _ rfl 2 1 rfl (by kernel_rfl) (opens_u8 Tryd.underlying5)
  obtain ⟨y3, a3, r3⟩ := opens_field hfs 3 _ rfl 3 1 rfl (by kernel_rfl) (opens_u32 Tryd.underlying24)
  have e := (glue a0 (by decide : 0 + 1 = 1) (glue a1 (by decide : 1 + 1 = 2) (glue a2 (by decide : 2 + 1 = 3) (glue a3 (by decide : 3 + 1 = 4) (glue_end hl)))))
  rw [List.drop_zero] at e
  exact ⟨⟨y0, y1, y2, y3⟩, e, ⟨r0, r1, r2, r3⟩⟩
structure Spo3 where
  a : Int
  b : BitVec 8
  m : Int
def Spo3.cells (x : Spo3) : List Value := [.int .i64 x.a, .int .u8 (uv x.b), .int .i64 x.m]
def Spo3.R (w : World) (x : Spo3) : Prop := I64 x.a ∧ True ∧ I64 x.m
theorem Spo3.cells_len : ∀ y, (Spo3.cells y).length = 3 := fun _ => rfl
set_option maxRecDepth 100000 in
theorem opens_Spo3 (w : World) : Opens Tryd.prog w 90 Spo3 Spo3.cells (Spo3.R w) := by
  intro H enc sp held fuel cs x h
  obtain ⟨hl, hfs⟩ := trod_fields Tryd.underlying90 h
  rw [show Tryd.prog.cellsOf 90 = 3 by kernel_rfl] at hl
  obtain ⟨y0, a0, r0⟩ := opens_field hfs 0 _ rfl 0 1 rfl (by kernel_rfl) (opens_i64 Tryd.underlying3)
  obtain ⟨y1, a1, r1⟩ := opens_field hfs 1 _ rfl 1 1 rfl (by kernel_rfl) (opens_u8 Tryd.underlying5)
  obtain ⟨y2, a2, r2⟩ := opens_field hfs 2 _ rfl 2 1 rfl (by kernel_rfl) (opens_i64 Tryd.underlying3)
  have e := (glue a0 (by decide : 0 + 1 = 1) (glue a1 (by decide : 1 + 1 = 2) (glue a2 (by decide : 2 + 1 = 3) (glue_end hl))))
  rw [List.drop_zero] at e
  exact ⟨⟨y0, y1, y2⟩, e, ⟨r0, r1, r2⟩⟩
namespace Lg
theorem St.ext' (a b : St) (h1 : a.typ = b.typ) (h2 : a.code = b.code) (h3 : a.more = b.more) (h4 : a.never = b.never) : a = b := by cases a; cases b; simp_all
/-- A status as a word. -/
def stN (x : St) : Nat := 2 * x.code.toNat + 512 * x.typ.toNat + (if x.more then 16384 else 0) + (if x.never then 32768 else 0)
def stW (x : St) : BitVec 64 := BitVec.ofNat 64 (stN x)
theorem stN_lt (x : St) (h : x.typ.toNat ≤ 7) : stN x < 65536 := by
  unfold stN; have := x.code.isLt; split <;> split <;> omega
theorem stW_nat (x : St) (h : x.typ.toNat ≤ 7) : (stW x).toNat = stN x := by
  unfold stW; rw [BitVec.toNat_ofNat, Nat.mod_eq_of_lt (by have := stN_lt x h; omega)]
/-- A word as a status. -/
def stR (s : BitVec 64) : St := ⟨BitVec.ofNat 8 (s.toNat / 512 % 8), BitVec.ofNat 8 (s.toNat / 2 % 256), decide (s.toNat / 16384 % 2 = 1), decide (s.toNat / 32768 = 1)⟩
theorem stR_typ (s : BitVec 64) : (stR s).typ.toNat ≤ 7 := by unfold stR; rw [BitVec.toNat_ofNat]; omega
theorem stR_back (x : St) (h : x.typ.toNat ≤ 7) : stR (stW x) = x := by
  have h1 := x.code.isLt
  have h0 := stW_nat x h
  apply St.ext'
  · apply BitVec.eq_of_toNat_eq
    unfold stR; rw [h0, BitVec.toNat_ofNat]; unfold stN
    split <;> split <;> omega
  · apply BitVec.eq_of_toNat_eq
    unfold stR; rw [h0, BitVec.toNat_ofNat]; unfold stN
    split <;> split <;> omega
  · unfold stR; rw [h0]; unfold stN
    cases x.more
    · simp only [Bool.false_eq_true, if_false]; split <;> (apply decide_eq_false; omega)
    · simp only [if_true]; split <;> (apply decide_eq_true; omega)
  · unfold stR; rw [h0]; unfold stN
    cases x.never
    · simp only [Bool.false_eq_true, if_false]; split <;> (apply decide_eq_false; omega)
    · simp only [if_true]; split <;> (apply decide_eq_true; omega)
theorem stW_stR (s : BitVec 64) (h : s.toNat < 65536) : (stW (stR s) == s) = (decide (s.toNat % 2 = 0) && decide (s.toNat / 4096 % 4 = 0)) := by
  have h0 := stW_nat (stR s) (stR_typ s)
  have hn : stN (stR s) = 2 * (s.toNat / 2 % 256) + 512 * (s.toNat / 512 % 8) + (if s.toNat / 16384 % 2 = 1 then 16384 else 0) + (if s.toNat / 32768 = 1 then 32768 else 0) := by
    unfold stN stR
    simp only [BitVec.toNat_ofNat, decide_eq_true_eq]
    rw [show s.toNat / 2 % 256 % 2 ^ 8 = s.toNat / 2 % 256 from Nat.mod_eq_of_lt (by omega), show s.toNat / 512 % 8 % 2 ^ 8 = s.toNat / 512 % 8 from Nat.mod_eq_of_lt (by omega)]
  rw [Bool.eq_iff_iff, Bool.and_eq_true, decide_eq_true_eq, decide_eq_true_eq, beq_iff_eq]
  constructor
  · intro e
    have := congrArg BitVec.toNat e
    rw [h0, hn] at this
    split at this <;> split at this <;> omega
  · rintro ⟨h1, h2⟩
    apply BitVec.eq_of_toNat_eq
    rw [h0, hn]
    split <;> split <;> omega
def erFl (x : Er) : List WF := [(x.count, 8), (x.queue.setWidth 64, 2), (x.id.setWidth 64, 2), (stW x.st, 2), (x.loc.setWidth 64, 2), (x.lba, 8), (x.nsid.setWidth 64, 4), (0#64, 4), (x.spec, 8)]
def erB (x : Er) : List (BitVec 8) := pageB 64 (erFl x)
theorem er_fit (x : Er) (h : x.st.typ.toNat ≤ 7) : ∀ f ∈ erFl x, Wire.putE f.1 f.2 = 0 := by
  unfold erFl
  simp only [List.forall_mem_cons]
  refine ⟨(fit64 x.count).1, (fit16 x.queue).1, (fit16 x.id).1, (fit_any (stW x.st) 2 (by decide) (by decide) (by rw [stW_nat _ h]; have := stN_lt x.st h; omega)).1, (fit16 x.loc).1, (fit64 x.lba).1, (fit32 x.nsid).1, (fit0 4 (by decide) (by decide)).1, (fit64 x.spec).1, fun f h => by simp at h⟩
theorem er_e (x : Er) (h : x.st.typ.toNat ≤ 7) : Wire.allE (erFl x) = 0 := (allE_iff _).2 (er_fit x h)
theorem er_len (x : Er) (h : x.st.typ.toNat ≤ 7) : (Wire.cat (erFl x)).length = 40 := (cat_len0 _ (er_e x h)).trans rfl
theorem erB_len (x : Er) (h : x.st.typ.toNat ≤ 7) : (erB x).length = 64 := pageB_len (by rw [er_len x h]; decide)
theorem er_lays (x : Er) (h : x.st.typ.toNat ≤ 7) : Lay.lays (List.replicate 64 0#8) [(0, Wire.putB (x.count) 8), (8, Wire.putB (x.queue.setWidth 64) 2), (10, Wire.putB (x.id.setWidth 64) 2), (12, Wire.putB (stW x.st) 2), (14, Wire.putB (x.loc.setWidth 64) 2), (16, Wire.putB (x.lba) 8), (24, Wire.putB (x.nsid.setWidth 64) 4), (32, Wire.putB (x.spec) 8)] = erB x := by
  have hf := er_fit x h
  have := lays_page [((x.count, 8), true), ((x.queue.setWidth 64, 2), true), ((x.id.setWidth 64, 2), true), ((stW x.st, 2), true), ((x.loc.setWidth 64, 2), true), ((x.lba, 8), true), ((x.nsid.setWidth 64, 4), true), ((0#64, 4), false), ((x.spec, 8), true)] 64 (by
    unfold erFl at hf
    simp only [List.forall_mem_cons] at hf ⊢
    obtain ⟨h0, h1, h2, h3, h4, h5, h6, h7, h8, -⟩ := hf
    exact ⟨⟨h0, by simp⟩, ⟨h1, by simp⟩, ⟨h2, by simp⟩, ⟨h3, by simp⟩, ⟨h4, by simp⟩, ⟨h5, by simp⟩, ⟨h6, by simp⟩, ⟨h7, by simp⟩, ⟨h8, by simp⟩, fun f h => by simp at h⟩) (by simp [sz])
  exact this
def noFl (x : No) : List WF := [(x.count, 8), (x.kind.setWidth 64, 1), (x.avail.setWidth 64, 1), (0#64, 2), (x.nsid.setWidth 64, 4)]
def noB (x : No) : List (BitVec 8) := pageB 64 (noFl x)
theorem no_fit (x : No) : ∀ f ∈ noFl x, Wire.putE f.1 f.2 = 0 := by
  unfold noFl
  simp only [List.forall_mem_cons]
  refine ⟨(fit64 x.count).1, (fit8 x.kind).1, (fit8 x.avail).1, (fit0 2 (by decide) (by decide)).1, (fit32 x.nsid).1, fun f h => by simp at h⟩
theorem no_e (x : No) : Wire.allE (noFl x) = 0 := (allE_iff _).2 (no_fit x)
theorem no_len (x : No) : (Wire.cat (noFl x)).length = 16 := (cat_len0 _ (no_e x)).trans rfl
theorem noB_len (x : No) : (noB x).length = 64 := pageB_len (by rw [no_len x]; decide)
theorem no_lays (x : No) : Lay.lays (List.replicate 64 0#8) [(0, Wire.putB (x.count) 8), (8, Wire.putB (x.kind.setWidth 64) 1), (9, Wire.putB (x.avail.setWidth 64) 1), (12, Wire.putB (x.nsid.setWidth 64) 4)] = noB x := by
  have hf := no_fit x
  have := lays_page [((x.count, 8), true), ((x.kind.setWidth 64, 1), true), ((x.avail.setWidth 64, 1), true), ((0#64, 2), false), ((x.nsid.setWidth 64, 4), true)] 64 (by
    unfold noFl at hf
    simp only [List.forall_mem_cons] at hf ⊢
    obtain ⟨h0, h1, h2, h3, h4, -⟩ := hf
    exact ⟨⟨h0, by simp⟩, ⟨h1, by simp⟩, ⟨h2, by simp⟩, ⟨h3, by simp⟩, ⟨h4, by simp⟩, fun f h => by simp at h⟩) (by simp [sz])
  exact this
def erRd (l : List (BitVec 8)) : Er := ⟨num l 0 8, (num l 8 2).setWidth 16, (num l 10 2).setWidth 16, stR (num l 12 2), (num l 14 2).setWidth 16, num l 16 8, (num l 24 4).setWidth 32, num l 32 8⟩
theorem erRd_back (x : Er) (h : x.st.typ.toNat ≤ 7) : erRd (erB x) = x := by
  have e0 : num (erB x) 0 8 = x.count := num_field (erFl x) (er_e x h) _ 0 _ rfl
  have e1 : num (erB x) 8 2 = x.queue.setWidth 64 := num_field (erFl x) (er_e x h) _ 1 _ rfl
  have e2 : num (erB x) 10 2 = x.id.setWidth 64 := num_field (erFl x) (er_e x h) _ 2 _ rfl
  have e3 : num (erB x) 12 2 = stW x.st := num_field (erFl x) (er_e x h) _ 3 _ rfl
  have e4 : num (erB x) 14 2 = x.loc.setWidth 64 := num_field (erFl x) (er_e x h) _ 4 _ rfl
  have e5 : num (erB x) 16 8 = x.lba := num_field (erFl x) (er_e x h) _ 5 _ rfl
  have e6 : num (erB x) 24 4 = x.nsid.setWidth 64 := num_field (erFl x) (er_e x h) _ 6 _ rfl
  have e8 : num (erB x) 32 8 = x.spec := num_field (erFl x) (er_e x h) _ 8 _ rfl
  unfold erRd
  rw [e0, e1, e2, e3, e4, e5, e6, e8]
  simp only [BitVec.setWidth_setWidth_of_le, BitVec.setWidth_eq, Nat.reduceLeDiff, stR_back _ h]
def noRd (l : List (BitVec 8)) : No := ⟨num l 0 8, (num l 8 1).setWidth 8, (num l 9 1).setWidth 8, (num l 12 4).setWidth 32⟩
theorem noRd_back (x : No) : noRd (noB x) = x := by
  have e0 : num (noB x) 0 8 = x.count := num_field (noFl x) (no_e x) _ 0 _ rfl
  have e1 : num (noB x) 8 1 = x.kind.setWidth 64 := num_field (noFl x) (no_e x) _ 1 _ rfl
  have e2 : num (noB x) 9 1 = x.avail.setWidth 64 := num_field (noFl x) (no_e x) _ 2 _ rfl
  have e4 : num (noB x) 12 4 = x.nsid.setWidth 64 := num_field (noFl x) (no_e x) _ 4 _ rfl
  unfold noRd
  rw [e0, e1, e2, e4]
  simp only [BitVec.setWidth_setWidth_of_le, BitVec.setWidth_eq, Nat.reduceLeDiff]
def erZ : Er := ⟨0#64, 0#16, 0#16, ⟨0#8, 0#8, false, false⟩, 0#16, 0#64, 0#32, 0#64⟩
def noZ : No := ⟨0#64, 0#8, 0#8, 0#32⟩
/-- What the reserved parts must be. -/
def erRes (l : List (BitVec 8)) : Bool := decide ((num l 12 2).toNat % 2 = 0) && decide ((num l 12 2).toNat / 4096 % 4 = 0) && allZ (cut l 28 4) && allZ (cut l 40 24)
theorem er_ok (l : List (BitVec 8)) (hl : l.length = 64) : (erB (erRd l) == l) = erRes l := by
  have hs : (num l 12 2).toNat < 65536 := num_lt l 12 2 (by omega) (by decide)
  have hst := stW_stR (num l 12 2) hs
  have hspec : resOk ([(8, true), (2, true), (2, true), (2, true), (2, true), (8, true), (4, true), (4, false), (8, true)] ++ [(24, false)]) l = (allZ (cut l 28 4) && allZ (cut l 40 24)) := by
    simp [resOk, cut]
  have hpb := page_back l [(8, true), (2, true), (2, true), (2, true), (2, true), (8, true), (4, true), (4, false), (8, true)] 24 64 (by decide) (by decide) hl
  rw [hspec] at hpb
  by_cases e : stW (stR (num l 12 2)) = num l 12 2
  · rw [e, beq_self_eq_true] at hst
    have hfl : erFl (erRd l) = fieldsOf l 0 [(8, true), (2, true), (2, true), (2, true), (2, true), (8, true), (4, true), (4, false), (8, true)] := by
      unfold erFl erRd
      simp only []
      rw [e, num_back16 l 8 (by omega), num_back16 l 10 (by omega), num_back16 l 14 (by omega), num_back32 l 24 (by omega)]
      rfl
    unfold erB erRes
    rw [hfl, hpb, ← hst]; simp
  · have hf : (stW (stR (num l 12 2)) == num l 12 2) = false := by simpa using e
    rw [hf] at hst
    unfold erRes
    rw [← hst]
    have hne : ¬ erB (erRd l) = l := by
      intro h
      have h2 : num (erB (erRd l)) 12 2 = stW (erRd l).st := num_field (erFl (erRd l)) (er_e _ (stR_typ _)) _ 3 _ rfl
      rw [h] at h2
      exact e h2.symm
    simpa using hne
def noRes (l : List (BitVec 8)) : Bool := allZ (cut l 10 2) && allZ (cut l 16 48)
theorem no_ok (l : List (BitVec 8)) (hl : l.length = 64) : (noB (noRd l) == l) = noRes l := by
  have hspec : resOk ([(8, true), (1, true), (1, true), (2, false), (4, true)] ++ [(48, false)]) l = (allZ (cut l 10 2) && allZ (cut l 16 48)) := by
    simp [resOk, cut]
  have hpb := page_back l [(8, true), (1, true), (1, true), (2, false), (4, true)] 48 64 (by decide) (by decide) hl
  rw [hspec] at hpb
  have hfl : noFl (noRd l) = fieldsOf l 0 [(8, true), (1, true), (1, true), (2, false), (4, true)] := by
    unfold noFl noRd
    simp only []
    rw [num_back8 l 8 (by omega), num_back8 l 9 (by omega), num_back32 l 12 (by omega)]
    rfl
  unfold noB noRes
  rw [hfl, hpb]
/-- Health. -/
def hlHd (x : Hl) : List WF := [(x.warning.setWidth 64, 1), (x.temperature.setWidth 64, 2), (x.spare.setWidth 64, 1), (x.threshold.setWidth 64, 1), (x.used.setWidth 64, 1), (0#64, 8), (0#64, 8), (0#64, 8), (0#64, 2)]
def hlTl (cs : List (BitVec 64)) : List WF := cs.flatMap fun c => [(c, 8), (0#64, 8)]
def hlFl (x : Hl) : List WF := hlHd x ++ hlTl x.counters
def hlB (x : Hl) : List (BitVec 8) := pageB 512 (hlFl x)
theorem hl_fit (x : Hl) : ∀ f ∈ hlFl x, Wire.putE f.1 f.2 = 0 := by
  unfold hlFl
  intro f hf
  rcases List.mem_append.1 hf with hf | hf
  · have hh : ∀ f ∈ hlHd x, Wire.putE f.1 f.2 = 0 := by
      unfold hlHd
      simp only [List.forall_mem_cons]
      refine ⟨(fit8 x.warning).1, (fit16 x.temperature).1, (fit8 x.spare).1, (fit8 x.threshold).1, (fit8 x.used).1, (fit0 8 (by decide) (by decide)).1, (fit0 8 (by decide) (by decide)).1, (fit0 8 (by decide) (by decide)).1, (fit0 2 (by decide) (by decide)).1, fun f h => by simp at h⟩
    exact hh f hf
  · unfold hlTl at hf
    obtain ⟨c, -, hc⟩ := List.mem_flatMap.1 hf
    simp at hc
    rcases hc with rfl | rfl
    · exact (fit64 c).1
    · exact (fit0 8 (by decide) (by decide)).1
theorem hl_e (x : Hl) : Wire.allE (hlFl x) = 0 := (allE_iff _).2 (hl_fit x)
theorem hlTl_sz (cs : List (BitVec 64)) : sz (hlTl cs) = 16 * cs.length := by
  unfold sz hlTl
  induction cs with
  | nil => rfl
  | cons c cs ih =>
    rw [List.flatMap_cons, List.map_append, List.sum_append, ih, List.length_cons]
    show 16 + 16 * cs.length = _
    omega
theorem sz_append (a b : List WF) : sz (a ++ b) = sz a + sz b := by unfold sz; rw [List.map_append, List.sum_append]
theorem hl_len (x : Hl) : (Wire.cat (hlFl x)).length = 32 + 16 * x.counters.length := by
  rw [cat_len0 _ (hl_e x)]; unfold hlFl; rw [sz_append, hlTl_sz]; rfl
theorem hlB_len (x : Hl) (h : x.counters.length = 10) : (hlB x).length = 512 := pageB_len (by rw [hl_len, h]; decide)
def hlCs (l : List (BitVec 8)) : List (BitVec 64) := (List.range 10).map fun i => num l (32 + 16 * i) 8
def hlRd (l : List (BitVec 8)) : Hl := ⟨(num l 0 1).setWidth 8, (num l 1 2).setWidth 16, (num l 3 1).setWidth 8, (num l 4 1).setWidth 8, (num l 5 1).setWidth 8, hlCs l⟩
def hlZ : Hl := ⟨0#8, 0#16, 0#8, 0#8, 0#8, List.replicate 10 0#64⟩
theorem hlRd_len (l : List (BitVec 8)) : (hlRd l).counters.length = 10 := by unfold hlRd hlCs; rw [List.length_map, List.length_range]
theorem hlTl_get (cs : List (BitVec 64)) (i : Nat) (c : BitVec 64) (h : cs[i]? = some c) : (hlTl cs)[2 * i]? = some (c, 8) := by
  unfold hlTl
  induction cs generalizing i with
  | nil => simp at h
  | cons d cs ih =>
    cases i with
    | zero => simp at h; subst h; rfl
    | succ i => simp at h; rw [List.flatMap_cons, show 2 * (i + 1) = 2 * i + 1 + 1 by omega]; exact ih i h
theorem hlTl_take (cs : List (BitVec 64)) (i : Nat) : (hlTl cs).take (2 * i) = hlTl (cs.take i) := by
  unfold hlTl
  induction cs generalizing i with
  | nil => simp
  | cons d cs ih =>
    cases i with
    | zero => simp
    | succ i => rw [List.take_succ_cons, List.flatMap_cons, List.flatMap_cons, show 2 * (i + 1) = 2 * i + 1 + 1 by omega]; exact congrArg (fun r => (d, 8) :: (0#64, 8) :: r) (ih i)
theorem hlRd_back (x : Hl) (h : x.counters.length = 10) : hlRd (hlB x) = x := by
  have e0 : num (hlB x) 0 1 = x.warning.setWidth 64 := num_field (hlFl x) (hl_e x) _ 0 _ rfl
  have e1 : num (hlB x) 1 2 = x.temperature.setWidth 64 := num_field (hlFl x) (hl_e x) _ 1 _ rfl
  have e2 : num (hlB x) 3 1 = x.spare.setWidth 64 := num_field (hlFl x) (hl_e x) _ 2 _ rfl
  have e3 : num (hlB x) 4 1 = x.threshold.setWidth 64 := num_field (hlFl x) (hl_e x) _ 3 _ rfl
  have e4 : num (hlB x) 5 1 = x.used.setWidth 64 := num_field (hlFl x) (hl_e x) _ 4 _ rfl
  have ec : hlCs (hlB x) = x.counters := by
    unfold hlCs
    apply List.ext_getElem?
    intro i
    by_cases hi : i < 10
    · obtain ⟨c, hc⟩ : ∃ c, x.counters[i]? = some c := ⟨_, List.getElem?_eq_getElem (by omega)⟩
      have hg : (hlFl x)[9 + 2 * i]? = some (c, 8) := by
        unfold hlFl
        rw [List.getElem?_append_right (by show 9 ≤ _; omega)]
        show (hlTl x.counters)[9 + 2 * i - 9]? = _
        rw [show 9 + 2 * i - 9 = 2 * i by omega]; exact hlTl_get _ _ _ hc
      have hk := num_field (hlFl x) (hl_e x) (List.replicate (512 - (Wire.cat (hlFl x)).length) 0#8) (9 + 2 * i) _ hg
      have hsz : sz ((hlFl x).take (9 + 2 * i)) = 32 + 16 * i := by
        unfold hlFl
        rw [List.take_append, List.take_of_length_le (by show 9 ≤ _; omega)]
        show sz (hlHd x ++ (hlTl x.counters).take (9 + 2 * i - 9)) = _
        rw [show 9 + 2 * i - 9 = 2 * i by omega, hlTl_take, sz_append, hlTl_sz, List.length_take, h, Nat.min_eq_left (by omega)]; rfl
      rw [hsz] at hk
      rw [List.getElem?_map, List.getElem?_range hi, hc]
      exact congrArg some hk
    · rw [List.getElem?_eq_none (by simp; omega), List.getElem?_eq_none (by omega)]
  unfold hlRd
  rw [e0, e1, e2, e3, e4, ec]
  simp only [BitVec.setWidth_setWidth_of_le, BitVec.setWidth_eq, Nat.reduceLeDiff]
def hlRes (l : List (BitVec 8)) : Bool := resOk ([(1, true), (2, true), (1, true), (1, true), (1, true), (8, false), (8, false), (8, false), (2, false), (8, true), (8, false), (8, true), (8, false), (8, true), (8, false), (8, true), (8, false), (8, true), (8, false), (8, true), (8, false), (8, true), (8, false), (8, true), (8, false), (8, true), (8, false), (8, true), (8, false)] ++ [(320, false)]) l
theorem hl_ok (l : List (BitVec 8)) (hl : l.length = 512) : (hlB (hlRd l) == l) = hlRes l := by
  have hpb := page_back l [(1, true), (2, true), (1, true), (1, true), (1, true), (8, false), (8, false), (8, false), (2, false), (8, true), (8, false), (8, true), (8, false), (8, true), (8, false), (8, true), (8, false), (8, true), (8, false), (8, true), (8, false), (8, true), (8, false), (8, true), (8, false), (8, true), (8, false), (8, true), (8, false)] 320 512 (by decide) (by decide) hl
  have hfl : hlFl (hlRd l) = fieldsOf l 0 [(1, true), (2, true), (1, true), (1, true), (1, true), (8, false), (8, false), (8, false), (2, false), (8, true), (8, false), (8, true), (8, false), (8, true), (8, false), (8, true), (8, false), (8, true), (8, false), (8, true), (8, false), (8, true), (8, false), (8, true), (8, false), (8, true), (8, false), (8, true), (8, false)] := by
    unfold hlFl hlHd hlRd
    simp only []
    rw [num_back8 l 0 (by omega), num_back16 l 1 (by omega), num_back8 l 3 (by omega), num_back8 l 4 (by omega), num_back8 l 5 (by omega)]
    rfl
  unfold hlB hlRes
  rw [hfl, hpb]
end Lg
end Go.Proofs.YthnnopjakpjoeaaDoor
