/- The fields of a controller: cells, places, bytes. Printed by genidctl.py. -/
import Derived.Test.YthnnopjakpjoeaaDoorIdA
import Derived.Test.YthnnopjakpjoeaaDoorLayMath
import Derived.Test.YthnnopjakpjoeaaDoorWireMath2
namespace Go.Proofs.YthnnopjakpjoeaaDoor
open Go.RowKit Idn Go.ChangeShapes Go.WideShapes Go.ChangeAt
set_option linter.unusedVariables false
set_option linter.unusedSimpArgs false
structure Ctl where
  vendor : BitVec 16
  subvendor : BitVec 16
  maxTransfer : BitVec 8
  controller : BitVec 16
  version : BitVec 32
  admin : BitVec 16
  aborts : BitVec 8
  events : BitVec 8
  firmware : BitVec 8
  logs : BitVec 8
  errors : BitVec 8
  powers : BitVec 8
  keepAlive : BitVec 16
  entrySizes : BitVec 8
  responseSizes : BitVec 8
  commands : BitVec 16
  namespaces : BitVec 32
  optional : BitVec 16
  cache : BitVec 8
  atomic : BitVec 16
  powerAtomic : BitVec 16
  lists : BitVec 32
  serial : List (BitVec 8)
  model : List (BitVec 8)
  revision : List (BitVec 8)
  name : List (BitVec 8)
def Ctl.cells (x : Ctl) : List Value := [.int .u16 (uv x.vendor), .int .u16 (uv x.subvendor), .int .u8 (uv x.maxTransfer), .int .u16 (uv x.controller), .int .u32 (uv x.version), .int .u16 (uv x.admin), .int .u8 (uv x.aborts), .int .u8 (uv x.events), .int .u8 (uv x.firmware), .int .u8 (uv x.logs), .int .u8 (uv x.errors), .int .u8 (uv x.powers), .int .u16 (uv x.keepAlive), .int .u8 (uv x.entrySizes), .int .u8 (uv x.responseSizes), .int .u16 (uv x.commands), .int .u32 (uv x.namespaces), .int .u16 (uv x.optional), .int .u8 (uv x.cache), .int .u16 (uv x.atomic), .int .u16 (uv x.powerAtomic), .int .u32 (uv x.lists), .string (strOf x.serial), .string (strOf x.model), .string (strOf x.revision), .string (strOf x.name)]
def Ctl.R (w : World) (x : Ctl) : Prop := True ∧ True ∧ True ∧ True ∧ True ∧ True ∧ True ∧ True ∧ True ∧ True ∧ True ∧ True ∧ True ∧ True ∧ True ∧ True ∧ True ∧ True ∧ True ∧ True ∧ True ∧ True ∧ x.serial.length ≤ 9223372036854775807 ∧ x.model.length ≤ 9223372036854775807 ∧ x.revision.length ≤ 9223372036854775807 ∧ x.name.length ≤ 9223372036854775807
theorem Ctl.cells_len : ∀ y, (Ctl.cells y).length = 26 := fun _ => rfl
set_option maxRecDepth 100000 in
theorem opens_Ctl (w : World) : Opens Tryd.prog w 38 Ctl Ctl.cells (Ctl.R w) := by
  intro H enc sp held fuel cs x h
  obtain ⟨hl, hfs⟩ := trod_fields Tryd.underlying38 h
  rw [show Tryd.prog.cellsOf 38 = 26 by kernel_rfl] at hl
  obtain ⟨y0, a0, r0⟩ := opens_field hfs 0 _ rfl 0 1 rfl (by kernel_rfl) (opens_u16 Tryd.underlying36)
  obtain ⟨y1, a1, r1⟩ := opens_field hfs 1 _ rfl 1 1 rfl (by kernel_rfl) (opens_u16 Tryd.underlying36)
  obtain ⟨y2, a2, r2⟩ := opens_field hfs 2 _ rfl 2 1 rfl (by kernel_rfl) (opens_u8 Tryd.underlying5)
  obtain ⟨y3, a3, r3⟩ := opens_field hfs 3 _ rfl 3 1 rfl (by kernel_rfl) (opens_u16 Tryd.underlying36)
  obtain ⟨y4, a4, r4⟩ := opens_field hfs 4 _ rfl 4 1 rfl (by kernel_rfl) (opens_u32 Tryd.underlying24)
  obtain ⟨y5, a5, r5⟩ := opens_field hfs 5 _ rfl 5 1 rfl (by kernel_rfl) (opens_u16 Tryd.underlying36)
  obtain ⟨y6, a6, r6⟩ := opens_field hfs 6 _ rfl 6 1 rfl (by kernel_rfl) (opens_u8 Tryd.underlying5)
  obtain ⟨y7, a7, r7⟩ := opens_field hfs 7 _ rfl 7 1 rfl (by kernel_rfl) (opens_u8 Tryd.underlying5)
  obtain ⟨y8, a8, r8⟩ := opens_field hfs 8 _ rfl 8 1 rfl (by kernel_rfl) (opens_u8 Tryd.underlying5)
  obtain ⟨y9, a9, r9⟩ := opens_field hfs 9 _ rfl 9 1 rfl (by kernel_rfl) (opens_u8 Tryd.underlying5)
  obtain ⟨y10, a10, r10⟩ := opens_field hfs 10 _ rfl 10 1 rfl (by kernel_rfl) (opens_u8 Tryd.underlying5)
  obtain ⟨y11, a11, r11⟩ := opens_field hfs 11 _ rfl 11 1 rfl (by kernel_rfl) (opens_u8 Tryd.underlying5)
  obtain ⟨y12, a12, r12⟩ := opens_field hfs 12 _ rfl 12 1 rfl (by kernel_rfl) (opens_u16 Tryd.underlying36)
  obtain ⟨y13, a13, r13⟩ := opens_field hfs 13 _ rfl 13 1 rfl (by kernel_rfl) (opens_u8 Tryd.underlying5)
  obtain ⟨y14, a14, r14⟩ := opens_field hfs 14 _ rfl 14 1 rfl (by kernel_rfl) (opens_u8 Tryd.underlying5)
  obtain ⟨y15, a15, r15⟩ := opens_field hfs 15 _ rfl 15 1 rfl (by kernel_rfl) (opens_u16 Tryd.underlying36)
  obtain ⟨y16, a16, r16⟩ := opens_field hfs 16 _ rfl 16 1 rfl (by kernel_rfl) (opens_u32 Tryd.underlying24)
  obtain ⟨y17, a17, r17⟩ := opens_field hfs 17 _ rfl 17 1 rfl (by kernel_rfl) (opens_u16 Tryd.underlying36)
  obtain ⟨y18, a18, r18⟩ := opens_field hfs 18 _ rfl 18 1 rfl (by kernel_rfl) (opens_u8 Tryd.underlying5)
  obtain ⟨y19, a19, r19⟩ := opens_field hfs 19 _ rfl 19 1 rfl (by kernel_rfl) (opens_u16 Tryd.underlying36)
  obtain ⟨y20, a20, r20⟩ := opens_field hfs 20 _ rfl 20 1 rfl (by kernel_rfl) (opens_u16 Tryd.underlying36)
  obtain ⟨y21, a21, r21⟩ := opens_field hfs 21 _ rfl 21 1 rfl (by kernel_rfl) (opens_u32 Tryd.underlying24)
  obtain ⟨y22, a22, r22⟩ := opens_field hfs 22 _ rfl 22 1 rfl (by kernel_rfl) (opens_str Tryd.underlying9)
  obtain ⟨y23, a23, r23⟩ := opens_field hfs 23 _ rfl 23 1 rfl (by kernel_rfl) (opens_str Tryd.underlying9)
  obtain ⟨y24, a24, r24⟩ := opens_field hfs 24 _ rfl 24 1 rfl (by kernel_rfl) (opens_str Tryd.underlying9)
  obtain ⟨y25, a25, r25⟩ := opens_field hfs 25 _ rfl 25 1 rfl (by kernel_rfl) (opens_str Tryd.underlying9)
  have e := (glue a0 (by decide : 0 + 1 = 1) (glue a1 (by decide : 1 + 1 = 2) (glue a2 (by decide : 2 + 1 = 3) (glue a3 (by decide : 3 + 1 = 4) (glue a4 (by decide : 4 + 1 = 5) (glue a5 (by decide : 5 + 1 = 6) (glue a6 (by decide : 6 + 1 = 7) (glue a7 (by decide : 7 + 1 = 8) (glue a8 (by decide : 8 + 1 = 9) (glue a9 (by decide : 9 + 1 = 10) (glue a10 (by decide : 10 + 1 = 11) (glue a11 (by decide : 11 + 1 = 12) (glue a12 (by decide : 12 + 1 = 13) (glue a13 (by decide : 13 + 1 = 14) (glue a14 (by decide : 14 + 1 = 15) (glue a15 (by decide : 15 + 1 = 16) (glue a16 (by decide : 16 + 1 = 17) (glue a17 (by decide : 17 + 1 = 18) (glue a18 (by decide : 18 + 1 = 19) (glue a19 (by decide : 19 + 1 = 20) (glue a20 (by decide : 20 + 1 = 21) (glue a21 (by decide : 21 + 1 = 22) (glue a22 (by decide : 22 + 1 = 23) (glue a23 (by decide : 23 + 1 = 24) (glue a24 (by decide : 24 + 1 = 25) (glue a25 (by decide : 25 + 1 = 26) (glue_end hl)))))))))))))))))))))))))))
  rw [List.drop_zero] at e
  exact ⟨⟨y0, y1, y2, y3, y4, y5, y6, y7, y8, y9, y10, y11, y12, y13, y14, y15, y16, y17, y18, y19, y20, y21, y22, y23, y24, y25⟩, e, ⟨r0, r1, r2, r3, r4, r5, r6, r7, r8, r9, r10, r11, r12, r13, r14, r15, r16, r17, r18, r19, r20, r21, r22, r23, r24, r25⟩⟩
namespace Idn
/-- Where fields lie: the place, the kind, the cell. -/
abbrev Spec := List (Nat × Kd × Nat)
def key (p : Pl) : Nat × Kd × Nat := (p.at', p.k, p.o)
/-- Places that were made behind 'base', for the block X. -/
def PsOk (w : World) (base X : Nat) (ps : List Pl) : Prop := ∀ p ∈ ps, p.ok w ∧ base ≤ p.box ∧ p.X = X
theorem PsOk.nil (w : World) (base X : Nat) : PsOk w base X [] := fun p h => by simp at h
theorem PsOk.below {w w' : World} {base X : Nat} {ps : List Pl} (h : PsOk w base X ps) (hb : Below w.heap.size w w') : PsOk w' base X ps := fun p hp => let ⟨a, b, c⟩ := h p hp; ⟨a.below hb, b, c⟩
theorem PsOk.snoc {w w' : World} {base X : Nat} {ps : List Pl} {p : Pl} (h : PsOk w base X ps) (hb : Below w.heap.size w w') (h1 : p.ok w') (h2 : base ≤ p.box) (h3 : p.X = X) : PsOk w' base X (ps ++ [p]) := by
  intro q hq
  rcases List.mem_append.1 hq with hq | hq
  · exact h.below hb q hq
  · simp at hq; subst hq; exact ⟨h1, h2, h3⟩
def ctlSpec : Spec := [(0, .u16, 0), (2, .u16, 1), (77, .u8, 2), (78, .u16, 3), (80, .u32, 4), (256, .u16, 5), (258, .u8, 6), (259, .u8, 7), (260, .u8, 8), (261, .u8, 9), (262, .u8, 10), (263, .u8, 11), (320, .u16, 12), (512, .u8, 13), (513, .u8, 14), (514, .u16, 15), (516, .u32, 16), (520, .u16, 17), (525, .u8, 18), (526, .u16, 19), (528, .u16, 20), (536, .u32, 21)]
end Idn
theorem Idn.val8 (y : BitVec 8) : Kd.u8.val (y.setWidth 64) = .int .u8 (uv y) ∧ Kd.u8.trunc (y.setWidth 64) = y.setWidth 64 := by
  simp only [Kd.val, Kd.trunc]; rw [BitVec.setWidth_setWidth_of_le _ (by omega), BitVec.setWidth_eq]; exact ⟨rfl, rfl⟩
theorem Idn.val16 (y : BitVec 16) : Kd.u16.val (y.setWidth 64) = .int .u16 (uv y) ∧ Kd.u16.trunc (y.setWidth 64) = y.setWidth 64 := by
  simp only [Kd.val, Kd.trunc]; rw [BitVec.setWidth_setWidth_of_le _ (by omega), BitVec.setWidth_eq]; exact ⟨rfl, rfl⟩
theorem Idn.val32 (y : BitVec 32) : Kd.u32.val (y.setWidth 64) = .int .u32 (uv y) ∧ Kd.u32.trunc (y.setWidth 64) = y.setWidth 64 := by
  simp only [Kd.val, Kd.trunc]; rw [BitVec.setWidth_setWidth_of_le _ (by omega), BitVec.setWidth_eq]; exact ⟨rfl, rfl⟩
theorem Idn.val64 (y : BitVec 64) : Kd.u64.val (y.setWidth 64) = .int .u64 (uv y) ∧ Kd.u64.trunc (y.setWidth 64) = y.setWidth 64 := by
  simp only [Kd.val, Kd.trunc]; rw [BitVec.setWidth_eq]; exact ⟨rfl, trivial⟩
namespace Idn
/-- Bytes of fields at their places. -/
def fsOf (sp : Spec) (vs : List (BitVec 64)) : List (Nat × List (BitVec 8)) := (sp.zip vs).map fun p => (p.1.1, Wire.le p.2 p.1.2.1.size)
/-- The cells hold these numbers. -/
def Fits (cs : List Value) (p : (Nat × Kd × Nat) × BitVec 64) : Prop := cs[p.1.2.2]? = some (p.1.2.1.val p.2) ∧ p.1.2.1.trunc p.2 = p.2 ∧ p.1.1 + p.1.2.1.size ≤ 4096
theorem fits8 {cs : List Value} {a o : Nat} {y : BitVec 8} (hc : cs[o]? = some (.int .u8 (uv y))) (ha : a + 1 ≤ 4096) : Fits cs ((a, .u8, o), y.setWidth 64) := ⟨by rw [(val8 _).1]; exact hc, (val8 _).2, ha⟩
theorem fits16 {cs : List Value} {a o : Nat} {y : BitVec 16} (hc : cs[o]? = some (.int .u16 (uv y))) (ha : a + 2 ≤ 4096) : Fits cs ((a, .u16, o), y.setWidth 64) := ⟨by rw [(val16 _).1]; exact hc, (val16 _).2, ha⟩
theorem fits32 {cs : List Value} {a o : Nat} {y : BitVec 32} (hc : cs[o]? = some (.int .u32 (uv y))) (ha : a + 4 ≤ 4096) : Fits cs ((a, .u32, o), y.setWidth 64) := ⟨by rw [(val32 _).1]; exact hc, (val32 _).2, ha⟩
theorem fits64 {cs : List Value} {a o : Nat} {y : BitVec 64} (hc : cs[o]? = some (.int .u64 (uv y))) (ha : a + 8 ≤ 4096) : Fits cs ((a, .u64, o), y.setWidth 64) := ⟨by rw [(val64 _).1]; exact hc, (val64 _).2, ha⟩
def ctlV (x : Ctl) : List (BitVec 64) := [x.vendor.setWidth 64, x.subvendor.setWidth 64, x.maxTransfer.setWidth 64, x.controller.setWidth 64, x.version.setWidth 64, x.admin.setWidth 64, x.aborts.setWidth 64, x.events.setWidth 64, x.firmware.setWidth 64, x.logs.setWidth 64, x.errors.setWidth 64, x.powers.setWidth 64, x.keepAlive.setWidth 64, x.entrySizes.setWidth 64, x.responseSizes.setWidth 64, x.commands.setWidth 64, x.namespaces.setWidth 64, x.optional.setWidth 64, x.cache.setWidth 64, x.atomic.setWidth 64, x.powerAtomic.setWidth 64, x.lists.setWidth 64]
theorem ctl_fits (x : Ctl) : ∀ p ∈ ctlSpec.zip (ctlV x), Fits (Ctl.cells x) p := by
  have h : ctlSpec.zip (ctlV x) = [((0, .u16, 0), x.vendor.setWidth 64), ((2, .u16, 1), x.subvendor.setWidth 64), ((77, .u8, 2), x.maxTransfer.setWidth 64), ((78, .u16, 3), x.controller.setWidth 64), ((80, .u32, 4), x.version.setWidth 64), ((256, .u16, 5), x.admin.setWidth 64), ((258, .u8, 6), x.aborts.setWidth 64), ((259, .u8, 7), x.events.setWidth 64), ((260, .u8, 8), x.firmware.setWidth 64), ((261, .u8, 9), x.logs.setWidth 64), ((262, .u8, 10), x.errors.setWidth 64), ((263, .u8, 11), x.powers.setWidth 64), ((320, .u16, 12), x.keepAlive.setWidth 64), ((512, .u8, 13), x.entrySizes.setWidth 64), ((513, .u8, 14), x.responseSizes.setWidth 64), ((514, .u16, 15), x.commands.setWidth 64), ((516, .u32, 16), x.namespaces.setWidth 64), ((520, .u16, 17), x.optional.setWidth 64), ((525, .u8, 18), x.cache.setWidth 64), ((526, .u16, 19), x.atomic.setWidth 64), ((528, .u16, 20), x.powerAtomic.setWidth 64), ((536, .u32, 21), x.lists.setWidth 64)] := rfl
  rw [h]
  simp only [List.forall_mem_cons]
  refine ⟨fits16 rfl (by decide), fits16 rfl (by decide), fits8 rfl (by decide), fits16 rfl (by decide), fits32 rfl (by decide), fits16 rfl (by decide), fits8 rfl (by decide), fits8 rfl (by decide), fits8 rfl (by decide), fits8 rfl (by decide), fits8 rfl (by decide), fits8 rfl (by decide), fits16 rfl (by decide), fits8 rfl (by decide), fits8 rfl (by decide), fits16 rfl (by decide), fits32 rfl (by decide), fits16 rfl (by decide), fits8 rfl (by decide), fits16 rfl (by decide), fits16 rfl (by decide), fits32 rfl (by decide), by simp⟩
def zeros : List (BitVec 8) := List.replicate 4096 0#8
theorem zeros_len : zeros.length = 4096 := List.length_replicate
def ctlFs (x : Ctl) : List (Nat × List (BitVec 8)) := fsOf ctlSpec (ctlV x)
theorem ctlFs_eq (x : Ctl) : ctlFs x = [(0, Wire.le (x.vendor.setWidth 64) 2), (2, Wire.le (x.subvendor.setWidth 64) 2), (77, Wire.le (x.maxTransfer.setWidth 64) 1), (78, Wire.le (x.controller.setWidth 64) 2), (80, Wire.le (x.version.setWidth 64) 4), (256, Wire.le (x.admin.setWidth 64) 2), (258, Wire.le (x.aborts.setWidth 64) 1), (259, Wire.le (x.events.setWidth 64) 1), (260, Wire.le (x.firmware.setWidth 64) 1), (261, Wire.le (x.logs.setWidth 64) 1), (262, Wire.le (x.errors.setWidth 64) 1), (263, Wire.le (x.powers.setWidth 64) 1), (320, Wire.le (x.keepAlive.setWidth 64) 2), (512, Wire.le (x.entrySizes.setWidth 64) 1), (513, Wire.le (x.responseSizes.setWidth 64) 1), (514, Wire.le (x.commands.setWidth 64) 2), (516, Wire.le (x.namespaces.setWidth 64) 4), (520, Wire.le (x.optional.setWidth 64) 2), (525, Wire.le (x.cache.setWidth 64) 1), (526, Wire.le (x.atomic.setWidth 64) 2), (528, Wire.le (x.powerAtomic.setWidth 64) 2), (536, Wire.le (x.lists.setWidth 64) 4)] := rfl
theorem ctlFs_in (x : Ctl) : ∀ q ∈ ctlFs x, q.1 + q.2.length ≤ 768 ∧ q.1 + q.2.length ≤ zeros.length := by
  rw [ctlFs_eq]
  simp only [List.forall_mem_cons, Wire.le_len, zeros_len]
  refine ⟨by decide, by decide, by decide, by decide, by decide, by decide, by decide, by decide, by decide, by decide, by decide, by decide, by decide, by decide, by decide, by decide, by decide, by decide, by decide, by decide, by decide, by decide, by simp⟩
/-- A text with bytes behind it, up to a size. -/
def fill (s : List (BitVec 8)) (n : Nat) (c : BitVec 8) : List (BitVec 8) := s ++ List.replicate (n - s.length) c
theorem fill_len {s : List (BitVec 8)} {n : Nat} {c : BitVec 8} (h : s.length ≤ n) : (fill s n c).length = n := by unfold fill; rw [List.length_append, List.length_replicate]; omega
def ctlTs (x : Ctl) : List (Nat × List (BitVec 8)) := [(4, fill x.serial 20 32#8), (24, fill x.model 40 32#8), (64, fill x.revision 8 32#8), (768, x.name)]
def ctlTr (x : Ctl) : List (Nat × List (BitVec 8)) := [(4, fill x.serial 20 32#8), (24, fill x.model 40 32#8), (64, fill x.revision 8 32#8), (768, fill x.name 256 0#8)]
def nameOk (s : List (BitVec 8)) (most : Nat) : Bool := decide (s.length ≤ most) && Wire.plain s && (s.getLast? != some 32#8)
def ctlOk (x : Ctl) : Bool := nameOk x.serial 20 && nameOk x.model 40 && nameOk x.revision 8 && nameOk x.name 223
/-- The structure of a controller. -/
def ctlB (x : Ctl) : List (BitVec 8) := Lay.lays zeros (ctlFs x ++ ctlTs x)
theorem nameOk_len {s : List (BitVec 8)} {n : Nat} (h : nameOk s n = true) : s.length ≤ n := by
  unfold nameOk at h
  simp only [Bool.and_eq_true, decide_eq_true_eq] at h
  exact h.1.1
/-- Zeros behind the name change nothing. -/
theorem ctl_ref (x : Ctl) (h : ctlOk x = true) : Lay.lays zeros (ctlFs x ++ ctlTr x) = ctlB x := by
  unfold ctlOk at h
  simp only [Bool.and_eq_true] at h
  obtain ⟨⟨⟨h1, h2⟩, h3⟩, h4⟩ := h
  have l1 := nameOk_len h1; have l2 := nameOk_len h2; have l3 := nameOk_len h3; have l4 := nameOk_len h4
  unfold ctlB
  rw [Lay.lays_append, Lay.lays_append]
  have hl0 : (Lay.lays zeros (ctlFs x)).length = 4096 := by rw [Lay.lays_len (fun q hq => (ctlFs_in x q hq).2), zeros_len]
  generalize hL : Lay.lays zeros (ctlFs x) = L at hl0 ⊢
  show Lay.lay (Lay.lay (Lay.lay (Lay.lay L 4 (fill x.serial 20 32#8)) 24 (fill x.model 40 32#8)) 64 (fill x.revision 8 32#8)) 768 (fill x.name 256 0#8) = Lay.lay (Lay.lay (Lay.lay (Lay.lay L 4 (fill x.serial 20 32#8)) 24 (fill x.model 40 32#8)) 64 (fill x.revision 8 32#8)) 768 x.name
  have e1 : (Lay.lay L 4 (fill x.serial 20 32#8)).length = 4096 := by rw [Lay.lay_len (by rw [fill_len l1]; omega), hl0]
  have e2 : (Lay.lay (Lay.lay L 4 (fill x.serial 20 32#8)) 24 (fill x.model 40 32#8)).length = 4096 := by rw [Lay.lay_len (by rw [fill_len l2]; omega), e1]
  have e3 : (Lay.lay (Lay.lay (Lay.lay L 4 (fill x.serial 20 32#8)) 24 (fill x.model 40 32#8)) 64 (fill x.revision 8 32#8)).length = 4096 := by rw [Lay.lay_len (by rw [fill_len l3]; omega), e2]
  have hz : ((Lay.lay (Lay.lay (Lay.lay L 4 (fill x.serial 20 32#8)) 24 (fill x.model 40 32#8)) 64 (fill x.revision 8 32#8)).drop 768).take 256 = List.replicate 256 0#8 := by
    rw [Lay.lay_other (by rw [fill_len l3]; omega) (by rw [fill_len l3]; omega), Lay.lay_other (by rw [fill_len l2]; omega) (by rw [fill_len l2]; omega), Lay.lay_other (by rw [fill_len l1]; omega) (by rw [fill_len l1]; omega), ← hL,
      Lay.lays_other (fun q hq => (ctlFs_in x q hq).2) (fun q hq => .inr (ctlFs_in x q hq).1)]
    unfold zeros; rw [List.drop_replicate, List.take_replicate, show min 256 (4096 - 768) = 256 by decide]
  generalize Lay.lay (Lay.lay (Lay.lay L 4 (fill x.serial 20 32#8)) 24 (fill x.model 40 32#8)) 64 (fill x.revision 8 32#8) = M at e3 hz ⊢
  apply List.ext_getElem?
  intro i
  rw [Lay.lay_get (by rw [fill_len (by omega)]; omega) i, Lay.lay_get (by omega) i, fill_len (by omega)]
  by_cases h1 : 768 ≤ i ∧ i < 768 + x.name.length
  · rw [if_pos (by omega), if_pos h1]; unfold fill; rw [List.getElem?_append_left (by omega)]
  · rw [if_neg h1]
    by_cases h2 : 768 ≤ i ∧ i < 768 + 256
    · rw [if_pos h2]
      unfold fill
      rw [List.getElem?_append_right (by omega), List.getElem?_replicate, if_pos (by omega)]
      have := congrArg (fun l : List (BitVec 8) => l[i - 768]?) hz
      simp only [List.getElem?_take, List.getElem?_drop, List.getElem?_replicate] at this
      rw [if_pos (by omega), if_pos (by omega), show 768 + (i - 768) = i by omega] at this
      exact this.symm
    · rw [if_neg h2]
end Idn
end Go.Proofs.YthnnopjakpjoeaaDoor
