/- The walk of DigestLinear. -/
import Derived.Test.YtjbgkbhpalfbiaaLaw02C
import Derived.Test.YtjbgkbhpalfbiaaRegion
namespace Go.Proofs.Ytjbgkbhpalfbiaa
open Go.RowKit
set_option linter.unusedVariables false
set_option linter.unusedSimpArgs false
namespace Dig
theorem st32_xor (s t : BitVec 32) (x y : BitVec 8) : st32 (s ^^^ t) (x ^^^ y) = st32 s x ^^^ st32 t y := by
  unfold st32
  rw [← r8_xor]
  congr 1
  rw [BitVec.setWidth_xor]; ac_rfl
theorem st16_xor (s t : BitVec 16) (x y : BitVec 8) : st16 (s ^^^ t) (x ^^^ y) = st16 s x ^^^ st16 t y := by
  unfold st16
  rw [← l8_xor]
  congr 1
  rw [BitVec.setWidth_xor, BitVec.shiftLeft_xor_distrib]; ac_rfl
theorem up32_xor : ∀ (l m : List (BitVec 8)) (s t : BitVec 32), l.length = m.length → up32 (s ^^^ t) (List.zipWith (· ^^^ ·) l m) = up32 s l ^^^ up32 t m
  | [], [], s, t, _ => rfl
  | x :: l, y :: m, s, t, h => by
    have h' : l.length = m.length := by simpa using h
    have := up32_xor l m (st32 s x) (st32 t y) h'
    rw [← st32_xor] at this
    simpa [up32] using this
  | [], _ :: _, _, _, h => by simp at h
  | _ :: _, [], _, _, h => by simp at h
theorem up16_xor : ∀ (l m : List (BitVec 8)) (s t : BitVec 16), l.length = m.length → up16 (s ^^^ t) (List.zipWith (· ^^^ ·) l m) = up16 s l ^^^ up16 t m
  | [], [], s, t, _ => rfl
  | x :: l, y :: m, s, t, h => by
    have h' : l.length = m.length := by simpa using h
    have := up16_xor l m (st16 s x) (st16 t y) h'
    rw [← st16_xor] at this
    simpa [up16] using this
  | [], _ :: _, _, _, h => by simp at h
  | _ :: _, [], _, _, h => by simp at h
def xor3 (l m r : List (BitVec 8)) : List (BitVec 8) := List.zipWith (· ^^^ ·) (List.zipWith (· ^^^ ·) l m) r
theorem crc32_xor3 (l m r : List (BitVec 8)) (h1 : l.length = m.length) (h2 : l.length = r.length) : crc32 l ^^^ crc32 m ^^^ crc32 r = crc32 (xor3 l m r) := by
  unfold crc32 xor3
  have e := up32_xor (List.zipWith (· ^^^ ·) l m) r (BitVec.allOnes 32 ^^^ BitVec.allOnes 32) (BitVec.allOnes 32) (by simp; omega)
  rw [up32_xor l m _ _ h1] at e
  rw [show BitVec.allOnes 32 ^^^ BitVec.allOnes 32 ^^^ BitVec.allOnes 32 = BitVec.allOnes 32 by decide] at e
  rw [e]
  generalize up32 (BitVec.allOnes 32) l = x
  generalize up32 (BitVec.allOnes 32) m = y
  generalize up32 (BitVec.allOnes 32) r = z
  rw [← BitVec.xor_allOnes, ← BitVec.xor_allOnes, ← BitVec.xor_allOnes, ← BitVec.xor_allOnes]
  rw [show x ^^^ BitVec.allOnes 32 ^^^ (y ^^^ BitVec.allOnes 32) ^^^ (z ^^^ BitVec.allOnes 32) = (x ^^^ y ^^^ z) ^^^ BitVec.allOnes 32 ^^^ (BitVec.allOnes 32 ^^^ BitVec.allOnes 32) by ac_rfl]
  simp
theorem crc16_xor3 (l m r : List (BitVec 8)) (h1 : l.length = m.length) (h2 : l.length = r.length) : crc16 l ^^^ crc16 m ^^^ crc16 r = crc16 (xor3 l m r) := by
  unfold crc16 xor3
  have e := up16_xor (List.zipWith (· ^^^ ·) l m) r (0#16 ^^^ 0#16) 0#16 (by simp; omega)
  rw [up16_xor l m _ _ h1] at e
  rw [show 0#16 ^^^ 0#16 ^^^ 0#16 = 0#16 by decide] at e
  rw [e]
theorem xor3_len (l m r : List (BitVec 8)) (h1 : l.length = m.length) (h2 : l.length = r.length) : (xor3 l m r).length = l.length := by simp [xor3]; omega
theorem xor3_get (l m r : List (BitVec 8)) (i : Nat) (x y z : BitVec 8) (h1 : l[i]? = some x) (h2 : m[i]? = some y) (h3 : r[i]? = some z) : (xor3 l m r)[i]? = some (x ^^^ y ^^^ z) := by
  simp [xor3, List.getElem?_zipWith, h1, h2, h3]
/-- What is done, then zeros. -/
def part (l : List (BitVec 8)) (k : Nat) : List (BitVec 8) := l.take k ++ List.replicate (l.length - k) 0#8
theorem part_len (l : List (BitVec 8)) (k : Nat) (h : k ≤ l.length) : (part l k).length = l.length := by simp [part]; omega
theorem part_step (l : List (BitVec 8)) (k : Nat) (x : BitVec 8) (h : l[k]? = some x) : (by8 (part l k)).set k (.int .u8 (uv x)) = by8 (part l (k + 1)) := by
  obtain ⟨hk, rfl⟩ := List.getElem?_eq_some_iff.1 h
  simp only [by8, part]
  rw [← List.map_set (f := fun x : BitVec 8 => Value.int .u8 (uv x)) (a := l[k])]
  congr 1
  rw [List.take_succ_eq_append_getElem hk, List.set_append, if_neg (by rw [List.length_take]; omega)]
  simp only [List.length_take, Nat.min_eq_left (Nat.le_of_lt hk), Nat.sub_self, List.append_assoc]
  congr 1
  rw [show l.length - k = (l.length - (k + 1)) + 1 by omega, List.replicate_succ]
  rfl
end Dig

set_option maxHeartbeats 1000000 in
theorem lawL_small (s : BitVec 32) (t : BitVec 16) (va : Value) (a : List (BitVec 8)) (vb : Value) (b : List (BitVec 8)) (vc : Value) (c : List (BitVec 8)) (cut : Int) (w : World) (ha : BytesV w va a) (hb : BytesV w vb b) (hc : BytesV w vc c)
    (hl : min (min a.length b.length) c.length ≤ 500) :
    Calls Try.prog 9 #[.int .u32 (uv s), .int .u16 (uv t), va, vb, vc, .int .i64 cut] w fun e w' => e = .returned (.bool true) ∧ Below w.heap.size w w' := by
  obtain ⟨n, hn⟩ : ∃ n : Nat, min (min (a.length : Int) (b.length : Int)) (c.length : Int) = (n : Int) := ⟨min (min a.length b.length) c.length, by omega⟩
  obtain ⟨k, hk⟩ : ∃ k : Nat, max (0 : Int) (min cut (n : Int)) = (k : Int) := ⟨(max (0 : Int) (min cut (n : Int))).toNat, by omega⟩
  have hn5 : n ≤ 500 := by omega
  have hkn : k ≤ n := by omega
  have hna : n ≤ a.length := by omega
  have hnb : n ≤ b.length := by omega
  have hnc : n ≤ c.length := by omega
  have bs : (Try.prog.info? 5).map (·.size) = some 1 := by kernel_rfl
  obtain ⟨u1, hu1, -, r1⟩ := ha.cut Try.underlying22 bs 0 k (by omega) (by omega)
  obtain ⟨u2, hu2, r2, -⟩ := ha.cut Try.underlying22 bs k n (by omega) (by omega)
  obtain ⟨u3, hu3, -, r3⟩ := ha.cut Try.underlying22 bs 0 n (by omega) (by omega)
  obtain ⟨u4, hu4, -, r4⟩ := hb.cut Try.underlying22 bs 0 n (by omega) (by omega)
  obtain ⟨u5, hu5, -, r5⟩ := hc.cut Try.underlying22 bs 0 n (by omega) (by omega)
  replace r1 := r1 rfl
  replace r3 := r3 rfl
  replace r4 := r4 rfl
  replace r5 := r5 rfl
  simp only [List.drop_zero] at hu1 hu3 hu4 hu5
  obtain ⟨l1, el1⟩ : ∃ l1, l1 = a.take k := ⟨_, rfl⟩
  obtain ⟨l2, el2⟩ : ∃ l2, l2 = (a.take n).drop k := ⟨_, rfl⟩
  obtain ⟨l3, el3⟩ : ∃ l3, l3 = a.take n := ⟨_, rfl⟩
  obtain ⟨l4, el4⟩ : ∃ l4, l4 = b.take n := ⟨_, rfl⟩
  obtain ⟨l5, el5⟩ : ∃ l5, l5 = c.take n := ⟨_, rfl⟩
  have e12 : l1 ++ l2 = l3 := by
    subst el1; subst el2; subst el3
    have := List.take_append_drop k (a.take n)
    rw [List.take_take, Nat.min_eq_left hkn] at this
    exact this
  have e32 : Dig.up32 (Dig.up32 s l1) l2 = Dig.up32 s l3 := by rw [← Dig.up32_app, e12]
  have e16 : Dig.up16 (Dig.up16 t l1) l2 = Dig.up16 t l3 := by rw [← Dig.up16_app, e12]
  have n3 : l3.length = n := by subst el3; simp; omega
  have n4 : l4.length = n := by subst el4; simp; omega
  have n5 : l5.length = n := by subst el5; simp; omega
  rw [← el1] at hu1; rw [← el2] at hu2; rw [← el3] at hu3; rw [← el4] at hu4; rw [← el5] at hu5
  have x32 := Dig.crc32_xor3 l3 l4 l5 (by omega) (by omega)
  have x16 := Dig.crc16_xor3 l3 l4 l5 (by omega) (by omega)
  have hxl := Dig.xor3_len l3 l4 l5 (by omega) (by omega)
  have hxg : ∀ (i : Nat) x y z, a[i]? = some x → b[i]? = some y → c[i]? = some z → i < n → (Dig.xor3 l3 l4 l5)[i]? = some (x ^^^ y ^^^ z) := by
    intro i x y z h1 h2 h3 hi
    refine Dig.xor3_get _ _ _ _ _ _ _ ?_ ?_ ?_
    · rw [el3, List.getElem?_take_of_lt hi]; exact h1
    · rw [el4, List.getElem?_take_of_lt hi]; exact h2
    · rw [el5, List.getElem?_take_of_lt hi]; exact h3
  generalize Dig.xor3 l3 l4 l5 = lx at *
  have HXL := Lib.hid (hxl.trans n3); clear hxl n3 n4 n5
  have HXG := Lib.hid hxg; clear hxg
  have HU1 := Lib.hid hu1; clear hu1
  have HU2 := Lib.hid hu2; clear hu2
  have HU3 := Lib.hid hu3; clear hu3
  have HU4 := Lib.hid hu4; clear hu4
  have HU5 := Lib.hid hu5; clear hu5
  clear e12 el1 el2 el3 el4 el5 bs hl
  have HA := Lib.hid ha
  have HB := Lib.hid hb
  have HC := Lib.hid hc
  obtain ⟨aa, ca, rfl, _, _, _, hra⟩ := ha
  obtain ⟨ab, cb, rfl, _, _, _, hrb⟩ := hb
  obtain ⟨ac, cc, rfl, _, _, _, hrc⟩ := hc
  have HRA := Lib.hid hra; clear hra
  have HRB := Lib.hid hrb; clear hrb
  have HRC := Lib.hid hrc; clear hrc
  go_enter Try.func9, Try.ntmps9
  go_wp2_with (first
    | (refine min3_law rfl (.tmp 18) (.tmp 20) (.tmp 22) rfl (n : Int) rfl rfl rfl hn ?_)
    | (refine min_law rfl (.tmp 27) (.tmp 28) rfl _ rfl rfl rfl ?_)
    | (refine max_law rfl (.const (.int .i64 0)) (.tmp 29) rfl (k : Int) rfl rfl hk ?_))
  refine wp_region_ext (by kernel_rfl) (by kernel_rfl) ?_
  repeat (quiet_step (first
    | (go_at_call 19; refine Calls.ext_of (Update32_any _ _ l1 _ (HU1.out.ext _)))
    | (go_at_call 19; refine Calls.ext_of (Update32_any _ _ l2 _ (HU2.out.ext _)))
    | (go_at_call 19; refine Calls.ext_of (Update32_any _ _ l3 _ (HU3.out.ext _)))
    | (go_at_call 21; refine Calls.ext_of (Update16_any _ _ l1 _ (HU1.out.ext _)))
    | (go_at_call 21; refine Calls.ext_of (Update16_any _ _ l2 _ (HU2.out.ext _)))
    | (go_at_call 21; refine Calls.ext_of (Update16_any _ _ l3 _ (HU3.out.ext _)))))
  refine wpQuiet_nil ?_
  intro w1 hw'
  have HB1 := Lib.hid (ext_out hw'); clear hw'
  clear r1 r2 e32 e16
  go_wp2_with (refine make_law bytesOk rfl _ _ rfl w.heap.size .i64 .i64 (n : Int) (n : Int) n rfl rfl rfl rfl (by omega) (by omega) HB1.out.size ?_; intro w2 hown hgrow; have HO := Lib.hid hown; clear hown; have HB2 := Lib.hid (HB1.out.grown hgrow HB1.out.size (by intro k hk; cases hk)); clear hgrow)
  go_loopw [16] (fun i wr => ∃ j : Nat, j ≤ n ∧ i = .int .i64 j ∧ wr.ownsRow w.heap.size 5 1 (.slice (some ⟨w1.heap.size, 0, none⟩) n n) n (by8 (Dig.part lx j)) ∧ Below w.heap.size w wr) (fun i _ => n - (intOf i).toNat)
  case atStart => exact ⟨0, by omega, rfl, by
    have := HO.out
    rw [by8_made] at this
    simpa [Dig.part, HXL.out] using this, HB2.out⟩
  case round =>
    obtain ⟨j, hj, rfl, hown, hb⟩ := hrel
    have HR := Lib.hid hown; clear hown
    have HB3 := Lib.hid hb; clear hb
    by_cases hlt : j < n
    · obtain ⟨xa, hxa⟩ : ∃ x, a[j]? = some x := ⟨a[j], List.getElem?_eq_getElem (by omega)⟩
      obtain ⟨xb, hxb⟩ : ∃ x, b[j]? = some x := ⟨b[j], List.getElem?_eq_getElem (by omega)⟩
      obtain ⟨xc, hxc⟩ : ∃ x, c[j]? = some x := ⟨c[j], List.getElem?_eq_getElem (by omega)⟩
      have HX := Lib.hid (HXG.out j xa xb xc hxa hxb hxc hlt)
      obtain ⟨ba, oa, rfl, ga⟩ := (HRA.out.below HB3.out).at (i := j) (v := .int .u8 (uv xa)) (by rw [by8_get, hxa]; rfl)
      obtain ⟨bb, ob, rfl, gb⟩ := (HRB.out.below HB3.out).at (i := j) (v := .int .u8 (uv xb)) (by rw [by8_get, hxb]; rfl)
      obtain ⟨bc, oc, rfl, gc⟩ := (HRC.out.below HB3.out).at (i := j) (v := .int .u8 (uv xc)) (by rw [by8_get, hxc]; rfl)
      clear hxa hxb hxc
      obtain ⟨vx, gx⟩ : ∃ vx, wr.cell? ⟨w1.heap.size, j, none⟩ = some vx := by
        have := HR.out.cellAt j (by omega)
        rw [this]
        exact ⟨_, List.getElem?_eq_getElem (by rw [by8_length, Dig.part_len lx j (by have := HXL.out; omega), HXL.out]; exact hlt)⟩
      have fx := HR.out.frozenAt j
      have hja : (j : Int) < (a.length : Int) := by omega
      have hjb : (j : Int) < (b.length : Int) := by omega
      have hjc : (j : Int) < (c.length : Int) := by omega
      go_wp2
      go_region
      all_goals (go_wp2; go_roundw)
      case rel => exact ⟨j + 1, by omega, by go_num, by
        have := HR.out.stored j (.int .u8 (uv (xa ^^^ xb ^^^ xc)))
        rw [Dig.part_step lx j _ HX.out] at this
        exact this.1.drew, (HB3.out.setCell (p := ⟨w1.heap.size, j, none⟩) HB1.out.size _).drew⟩
      case measure => simp [intOf]; omega
    · obtain rfl : j = n := by omega
      have HX := Lib.hid (BytesV.of_own (l := lx) (by
        have := HR.out
        rw [show Dig.part lx j = lx by unfold Dig.part; rw [← HXL.out, List.take_length, Nat.sub_self]; simp] at this
        rw [HXL.out]; exact this))
      go_wp2_with fail
      refine wp_region_ext (by kernel_rfl) (by kernel_rfl) ?_
      repeat (quiet_step (first
        | (go_at_call 12; refine Calls.ext_of (CRC32C_any _ lx _ (HX.out.ext _)))
        | (go_at_call 12; refine Calls.ext_of (CRC32C_any _ l3 _ ((HU3.out.below HB3.out).ext _)))
        | (go_at_call 12; refine Calls.ext_of (CRC32C_any _ l4 _ ((HU4.out.below HB3.out).ext _)))
        | (go_at_call 12; refine Calls.ext_of (CRC32C_any _ l5 _ ((HU5.out.below HB3.out).ext _)))
        | (go_at_call 15; refine Calls.ext_of (CRC16_any _ lx _ (HX.out.ext _)))
        | (go_at_call 15; refine Calls.ext_of (CRC16_any _ l3 _ ((HU3.out.below HB3.out).ext _)))
        | (go_at_call 15; refine Calls.ext_of (CRC16_any _ l4 _ ((HU4.out.below HB3.out).ext _)))
        | (go_at_call 15; refine Calls.ext_of (CRC16_any _ l5 _ ((HU5.out.below HB3.out).ext _)))
        | (go_at_call 10; refine Calls.ext_of (known_any _))))
      refine wpQuiet_nil ?_
      intro w4 hw'
      have HB4 := Lib.hid (ext_out hw'); clear hw'
      go_wp2_with fail
      go_ret
      exact ⟨rfl, gr_tr HB3.out HB4.out⟩
theorem lawL_big (s : BitVec 32) (t : BitVec 16) (va : Value) (a : List (BitVec 8)) (vb : Value) (b : List (BitVec 8)) (vc : Value) (c : List (BitVec 8)) (cut : Int) (w : World) (ha : BytesV w va a) (hb : BytesV w vb b) (hc : BytesV w vc c)
    (hl : 500 < min (min a.length b.length) c.length) :
    Calls Try.prog 9 #[.int .u32 (uv s), .int .u16 (uv t), va, vb, vc, .int .i64 cut] w fun e w' => e = .returned (.bool true) ∧ Below w.heap.size w w' := by
  obtain ⟨n, hn⟩ : ∃ n : Nat, min (min (a.length : Int) (b.length : Int)) (c.length : Int) = (n : Int) := ⟨min (min a.length b.length) c.length, by omega⟩
  have hn5 : 500 < n := by omega
  clear hl
  obtain ⟨aa, ca, rfl, _, _, _, _⟩ := ha
  obtain ⟨ab, cb, rfl, _, _, _, _⟩ := hb
  obtain ⟨ac, cc, rfl, _, _, _, _⟩ := hc
  have HN := Lib.hid hn; clear hn
  go_enter Try.func9, Try.ntmps9
  go_wp2_with (first
    | (refine min3_law rfl (.tmp 18) (.tmp 20) (.tmp 22) rfl (n : Int) rfl rfl rfl HN.out ?_)
    | (go_at_call 10; refine (known_any _).mono ?_; rintro e w1 ⟨rfl, hb⟩))
  go_ret
  exact ⟨rfl, hb⟩
theorem lawL (s : BitVec 32) (t : BitVec 16) (va : Value) (a : List (BitVec 8)) (vb : Value) (b : List (BitVec 8)) (vc : Value) (c : List (BitVec 8)) (cut : Int) (w : World) (ha : BytesV w va a) (hb : BytesV w vb b) (hc : BytesV w vc c)
    (_ : -9223372036854775808 ≤ cut ∧ cut ≤ 9223372036854775807) :
    Calls Try.prog 9 #[.int .u32 (uv s), .int .u16 (uv t), va, vb, vc, .int .i64 cut] w fun e w' => e = .returned (.bool true) ∧ Below w.heap.size w w' := by
  by_cases h : min (min a.length b.length) c.length ≤ 500
  · exact lawL_small s t va a vb b vc c cut w ha hb hc h
  · exact lawL_big s t va a vb b vc c cut w ha hb hc (by omega)
end Go.Proofs.Ytjbgkbhpalfbiaa
