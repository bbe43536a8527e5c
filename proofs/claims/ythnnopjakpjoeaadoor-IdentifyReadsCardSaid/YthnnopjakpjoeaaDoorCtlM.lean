/- What a controller's structure decodes to: the plain law. Printed by genctlm.py. -/
import Derived.Test.YthnnopjakpjoeaaDoorIdDec
import Derived.Test.YthnnopjakpjoeaaDoorIdE
namespace Go.Proofs.YthnnopjakpjoeaaDoor
open Go.RowKit Idn
set_option linter.unusedVariables false
set_option linter.unusedSimpArgs false
namespace Idn
/-- What is left when the bytes at the end that are p have been removed. -/
def stripP (p : BitVec 8 → Bool) (l : List (BitVec 8)) : List (BitVec 8) := (l.reverse.dropWhile p).reverse
theorem dropWhile_rep (p : BitVec 8 → Bool) (n : Nat) (c : BitVec 8) (r : List (BitVec 8)) (hc : p c = true) : (List.replicate n c ++ r).dropWhile p = r.dropWhile p := by
  induction n with
  | zero => rfl
  | succ n ih => rw [List.replicate_succ, List.cons_append, List.dropWhile_cons, if_pos hc, ih]
theorem stripP_fill (p : BitVec 8 → Bool) (s : List (BitVec 8)) (n : Nat) (c : BitVec 8) (hc : p c = true) (hs : ∀ y, s.getLast? = some y → p y = false) : stripP p (s ++ List.replicate n c) = s := by
  unfold stripP
  rw [List.reverse_append, List.reverse_replicate, dropWhile_rep p n c _ hc]
  rw [← List.head?_reverse] at hs
  cases h : s.reverse with
  | nil => rw [List.dropWhile_nil, ← h, List.reverse_reverse]
  | cons y r =>
    rw [h] at hs
    rw [List.dropWhile_cons, if_neg (by rw [hs y rfl]; decide), ← h, List.reverse_reverse]
theorem stripP_le (p : BitVec 8 → Bool) (l : List (BitVec 8)) : (stripP p l).length ≤ l.length := by
  unfold stripP
  rw [List.length_reverse]
  have := (List.dropWhile_suffix (l := l.reverse) p).length_le
  rwa [List.length_reverse] at this
/-- Blanks and zeros. -/
def blk (x : BitVec 8) : Bool := x == 32#8 || x == 0#8
def is32 (x : BitVec 8) : Bool := x == 32#8
def is0 (x : BitVec 8) : Bool := x == 0#8
/-- The fields of a structure, the texts without what t1 (t4) says of their ends. -/
def rdC (t1 t4 : BitVec 8 → Bool) (l : List (BitVec 8)) : Ctl := ⟨(Wire.getV (cutL l 0 2)).setWidth 16, (Wire.getV (cutL l 2 2)).setWidth 16, (Wire.getV (cutL l 77 1)).setWidth 8, (Wire.getV (cutL l 78 2)).setWidth 16, (Wire.getV (cutL l 80 4)).setWidth 32, (Wire.getV (cutL l 256 2)).setWidth 16, (Wire.getV (cutL l 258 1)).setWidth 8, (Wire.getV (cutL l 259 1)).setWidth 8, (Wire.getV (cutL l 260 1)).setWidth 8, (Wire.getV (cutL l 261 1)).setWidth 8, (Wire.getV (cutL l 262 1)).setWidth 8, (Wire.getV (cutL l 263 1)).setWidth 8, (Wire.getV (cutL l 320 2)).setWidth 16, (Wire.getV (cutL l 512 1)).setWidth 8, (Wire.getV (cutL l 513 1)).setWidth 8, (Wire.getV (cutL l 514 2)).setWidth 16, (Wire.getV (cutL l 516 4)).setWidth 32, (Wire.getV (cutL l 520 2)).setWidth 16, (Wire.getV (cutL l 525 1)).setWidth 8, (Wire.getV (cutL l 526 2)).setWidth 16, (Wire.getV (cutL l 528 2)).setWidth 16, (Wire.getV (cutL l 536 4)).setWidth 32, stripP t1 (cutL l 4 20), stripP t1 (cutL l 24 40), stripP t1 (cutL l 64 8), stripP t4 (cutL l 768 256)⟩
def ctlZ : Ctl := ⟨0#16, 0#16, 0#8, 0#16, 0#32, 0#16, 0#8, 0#8, 0#8, 0#8, 0#8, 0#8, 0#16, 0#8, 0#8, 0#16, 0#32, 0#16, 0#8, 0#16, 0#16, 0#32, [], [], [], []⟩
def ctlGood (x : Ctl) : Prop := x.serial.length ≤ 300 ∧ x.model.length ≤ 300 ∧ x.revision.length ≤ 300 ∧ x.name.length ≤ 300
theorem cutL_le (l : List (BitVec 8)) (a n : Nat) : (cutL l a n).length ≤ n := by unfold cutL; rw [List.length_take]; omega
theorem rdC_good (t1 t4 : BitVec 8 → Bool) (l : List (BitVec 8)) : ctlGood (rdC t1 t4 l) := by
  have h : ∀ t a n, n ≤ 300 → (stripP t (cutL l a n)).length ≤ 300 := fun t a n hn => Nat.le_trans (stripP_le _ _) (Nat.le_trans (cutL_le _ _ _) hn)
  exact ⟨h _ _ _ (by decide), h _ _ _ (by decide), h _ _ _ (by decide), h _ _ _ (by decide)⟩
theorem apart_ctl : apartB ctlSpec = true := by decide +kernel
theorem ctl_apart (x : Ctl) (h : ctlOk x = true) : (∀ q ∈ ctlFs x ++ ctlTr x, q.1 + q.2.length ≤ zeros.length) ∧ (ctlFs x ++ ctlTr x).Pairwise (fun a b => a.1 + a.2.length ≤ b.1 ∨ b.1 + b.2.length ≤ a.1) := by
  unfold ctlOk at h
  simp only [Bool.and_eq_true] at h
  obtain ⟨⟨⟨h1, h2⟩, h3⟩, h4⟩ := h
  have l1 := fill_len (c := 32#8) (nameOk_len h1); have l2 := fill_len (c := 32#8) (nameOk_len h2); have l3 := fill_len (c := 32#8) (nameOk_len h3)
  have l4 : (fill x.name 256 0#8).length = 256 := fill_len (Nat.le_trans (nameOk_len h4) (by decide))
  constructor
  · intro q hq
    rcases List.mem_append.1 hq with hq | hq
    · exact (ctlFs_in x q hq).2
    · rw [zeros_len]
      have hh : ∀ q ∈ ctlTr x, q.1 + q.2.length ≤ 4096 := by
        unfold ctlTr
        simp only [List.forall_mem_cons, l1, l2, l3, l4]
        exact ⟨by decide, by decide, by decide, by decide, fun q hq => by simp at hq⟩
      exact hh q hq
  · rw [List.pairwise_append]
    refine ⟨fsOf_apart ctlSpec (ctlV x) apart_ctl, ?_, ?_⟩
    · unfold ctlTr
      simp only [List.pairwise_cons, List.forall_mem_cons, l1, l2, l3, l4]
      simp
    · rw [ctlFs_eq]
      unfold ctlTr
      simp only [List.forall_mem_cons, Wire.le_len, l1, l2, l3, l4]
      simp
theorem ctl_cut (x : Ctl) (h : ctlOk x = true) (a : Nat) (s : List (BitVec 8)) (hm : (a, s) ∈ ctlFs x ++ ctlTr x) : cutL (ctlB x) a s.length = s := by
  obtain ⟨h1, h2⟩ := ctl_apart x h
  have := Lay.lays_read h1 h2 (a, s) hm
  rw [ctl_ref x h] at this
  exact this
theorem ctl_num (x : Ctl) (h : ctlOk x = true) (s : Nat × Kd × Nat) (v : BitVec 64) (hm : (s, v) ∈ ctlSpec.zip (ctlV x)) : Wire.getV (cutL (ctlB x) s.1 s.2.1.size) = v := by
  have hq : (s.1, Wire.le v s.2.1.size) ∈ ctlFs x := by
    unfold ctlFs fsOf; exact List.mem_map.2 ⟨(s, v), hm, rfl⟩
  have hc := ctl_cut x h s.1 (Wire.le v s.2.1.size) (List.mem_append_left _ hq)
  rw [Wire.le_len] at hc
  have h1 := s.2.1.size_pos
  rw [hc]
  have hE : Wire.getE (Wire.le v s.2.1.size) = 0 := by unfold Wire.getE; rw [Wire.le_len, if_neg (by omega)]
  unfold Wire.getV
  rw [if_pos hE]
  exact Wire.get_le v _ h1.2 (fun h => trunc_fits _ v (ctl_fits x (s, v) hm).2.1 h)
theorem nameOk_last {s : List (BitVec 8)} {n : Nat} (h : nameOk s n = true) : ∀ y, s.getLast? = some y → Wire.plainB y = true ∧ y ≠ 32#8 := by
  unfold nameOk at h
  simp only [Bool.and_eq_true, decide_eq_true_eq] at h
  obtain ⟨⟨h1, h2⟩, h3⟩ := h
  intro y hy
  refine ⟨?_, fun e => ?_⟩
  · unfold Wire.plain at h2
    exact List.all_eq_true.1 h2 y (List.mem_of_getLast? hy)
  · subst e; rw [hy] at h3; simp at h3
theorem strip_name (t : BitVec 8 → Bool) (ht : ∀ y, t y = true → y = 32#8 ∨ y = 0#8) {s : List (BitVec 8)} {n m : Nat} (c : BitVec 8) (hc : t c = true) (h : nameOk s n = true) : stripP t (fill s m c) = s := by
  unfold fill
  refine stripP_fill t s _ c hc (fun y hy => ?_)
  obtain ⟨h1, h2⟩ := nameOk_last h y hy
  cases hy2 : t y with
  | false => rfl
  | true =>
    rcases ht y hy2 with rfl | rfl
    · exact absurd rfl h2
    · exact absurd h1 (by decide)
theorem rdC_back (t1 t4 : BitVec 8 → Bool) (h1 : t1 32#8 = true) (h4 : t4 0#8 = true) (g1 : ∀ y, t1 y = true → y = 32#8 ∨ y = 0#8) (g4 : ∀ y, t4 y = true → y = 32#8 ∨ y = 0#8) (x : Ctl) (h : ctlOk x = true) : rdC t1 t4 (ctlB x) = x := by
  have hk := h
  unfold ctlOk at hk
  simp only [Bool.and_eq_true] at hk
  obtain ⟨⟨⟨k1, k2⟩, k3⟩, k4⟩ := hk
  have c1 := ctl_cut x h 4 (fill x.serial 20 32#8) (List.mem_append_right _ (by simp [ctlTr]))
  have c2 := ctl_cut x h 24 (fill x.model 40 32#8) (List.mem_append_right _ (by simp [ctlTr]))
  have c3 := ctl_cut x h 64 (fill x.revision 8 32#8) (List.mem_append_right _ (by simp [ctlTr]))
  have c4 := ctl_cut x h 768 (fill x.name 256 0#8) (List.mem_append_right _ (by simp [ctlTr]))
  rw [fill_len (nameOk_len k1)] at c1
  rw [fill_len (nameOk_len k2)] at c2
  rw [fill_len (nameOk_len k3)] at c3
  rw [fill_len (Nat.le_trans (nameOk_len k4) (by decide))] at c4
  have e0 := ctl_num x h (0, .u16, 0) (x.vendor.setWidth 64) (by simp [ctlSpec, ctlV])
  have e1 := ctl_num x h (2, .u16, 1) (x.subvendor.setWidth 64) (by simp [ctlSpec, ctlV])
  have e2 := ctl_num x h (77, .u8, 2) (x.maxTransfer.setWidth 64) (by simp [ctlSpec, ctlV])
  have e3 := ctl_num x h (78, .u16, 3) (x.controller.setWidth 64) (by simp [ctlSpec, ctlV])
  have e4 := ctl_num x h (80, .u32, 4) (x.version.setWidth 64) (by simp [ctlSpec, ctlV])
  have e5 := ctl_num x h (256, .u16, 5) (x.admin.setWidth 64) (by simp [ctlSpec, ctlV])
  have e6 := ctl_num x h (258, .u8, 6) (x.aborts.setWidth 64) (by simp [ctlSpec, ctlV])
  have e7 := ctl_num x h (259, .u8, 7) (x.events.setWidth 64) (by simp [ctlSpec, ctlV])
  have e8 := ctl_num x h (260, .u8, 8) (x.firmware.setWidth 64) (by simp [ctlSpec, ctlV])
  have e9 := ctl_num x h (261, .u8, 9) (x.logs.setWidth 64) (by simp [ctlSpec, ctlV])
  have e10 := ctl_num x h (262, .u8, 10) (x.errors.setWidth 64) (by simp [ctlSpec, ctlV])
  have e11 := ctl_num x h (263, .u8, 11) (x.powers.setWidth 64) (by simp [ctlSpec, ctlV])
  have e12 := ctl_num x h (320, .u16, 12) (x.keepAlive.setWidth 64) (by simp [ctlSpec, ctlV])
  have e13 := ctl_num x h (512, .u8, 13) (x.entrySizes.setWidth 64) (by simp [ctlSpec, ctlV])
  have e14 := ctl_num x h (513, .u8, 14) (x.responseSizes.setWidth 64) (by simp [ctlSpec, ctlV])
  have e15 := ctl_num x h (514, .u16, 15) (x.commands.setWidth 64) (by simp [ctlSpec, ctlV])
  have e16 := ctl_num x h (516, .u32, 16) (x.namespaces.setWidth 64) (by simp [ctlSpec, ctlV])
  have e17 := ctl_num x h (520, .u16, 17) (x.optional.setWidth 64) (by simp [ctlSpec, ctlV])
  have e18 := ctl_num x h (525, .u8, 18) (x.cache.setWidth 64) (by simp [ctlSpec, ctlV])
  have e19 := ctl_num x h (526, .u16, 19) (x.atomic.setWidth 64) (by simp [ctlSpec, ctlV])
  have e20 := ctl_num x h (528, .u16, 20) (x.powerAtomic.setWidth 64) (by simp [ctlSpec, ctlV])
  have e21 := ctl_num x h (536, .u32, 21) (x.lists.setWidth 64) (by simp [ctlSpec, ctlV])
  simp only [Kd.size] at e0 e1 e2 e3 e4 e5 e6 e7 e8 e9 e10 e11 e12 e13 e14 e15 e16 e17 e18 e19 e20 e21
  unfold rdC
  rw [e0, e1, e2, e3, e4, e5, e6, e7, e8, e9, e10, e11, e12, e13, e14, e15, e16, e17, e18, e19, e20, e21, c1, c2, c3, c4, strip_name t1 g1 32#8 h1 k1, strip_name t1 g1 32#8 h1 k2, strip_name t1 g1 32#8 h1 k3, strip_name t4 g4 0#8 h4 k4]
  simp only [BitVec.setWidth_setWidth_of_le, BitVec.setWidth_eq, Nat.reduceLeDiff, Nat.le_refl]
theorem rdm_back (x : Ctl) (h : ctlOk x = true) : rdC blk blk (ctlB x) = x := rdC_back blk blk rfl rfl (fun y h => by unfold blk at h; simpa using h) (fun y h => by unfold blk at h; simpa using h) x h
theorem rdr_back (x : Ctl) (h : ctlOk x = true) : rdC is32 is0 (ctlB x) = x := rdC_back is32 is0 rfl rfl (fun y h => by unfold is32 at h; exact .inl (by simpa using h)) (fun y h => by unfold is0 at h; exact .inr (by simpa using h)) x h
theorem ctlB_len (x : Ctl) (h : ctlOk x = true) : (ctlB x).length = 4096 := by
  rw [← ctl_ref x h, Lay.lays_len (ctl_apart x h).1, zeros_len]
/-- Both readers decode to the same. -/
theorem dec_ctl (l : List (BitVec 8)) : decV (rdC is32 is0) ctlOk ctlB ctlZ l = decV (rdC blk blk) ctlOk ctlB ctlZ l :=
  decV_eq _ _ _ _ _ ctlGood (rdC_good _ _) (rdC_good _ _) (fun x _ h => rdr_back x h) (fun x _ h => rdm_back x h) l
end Idn
end Go.Proofs.YthnnopjakpjoeaaDoor
