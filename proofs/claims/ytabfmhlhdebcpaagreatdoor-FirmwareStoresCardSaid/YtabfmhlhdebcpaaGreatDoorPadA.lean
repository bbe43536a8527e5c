/- The walks of wire.Pad and of slices.ContainsFunc at bytes. (Printed by mkpada.py.) -/
import Derived.Test.YtabfmhlhdebcpaaGreatDoorTail
import Derived.Test.YtabfmhlhdebcpaaGreatDoorWireB
import Derived.Test.YtabfmhlhdebcpaaGreatDoorWireMath2
import Derived.Test.YtabfmhlhdebcpaaGreatDoorShelf
import Derived.Deep.DeepCutAuto
namespace Go.Proofs.YtabfmhlhdebcpaaGreatDoor
open Go.RowKit
set_option linter.unusedVariables false
set_option linter.unusedSimpArgs false
theorem any_take {α : Type} (p : α → Bool) (l : List α) (k : Nat) (x : α) (h : l[k]? = some x) : (l.take (k + 1)).any p = ((l.take k).any p || p x) := by
  obtain ⟨hk, rfl⟩ := List.getElem?_eq_some_iff.1 h
  rw [List.take_succ_eq_append_getElem hk, List.any_append]; simp
theorem any_hit {α : Type} (p : α → Bool) (l : List α) (k : Nat) (x : α) (h : l[k]? = some x) (hp : p x = true) : l.any p = true := by
  obtain ⟨hk, rfl⟩ := List.getElem?_eq_some_iff.1 h
  exact List.any_eq_true.2 ⟨_, List.getElem_mem hk, hp⟩
def nonzero (x : BitVec 8) : Bool := uv x != 0
def notPlain (x : BitVec 8) : Bool := !Wire.plainB x
theorem plain_any (x : BitVec 8) (b : Bool) (w : World) (hb : Wire.plainB x = b) : Calls Tryz.prog 69 #[.int .u8 (uv x)] w fun e w' => e = .returned (.bool b) ∧ w = w' := by
  obtain ⟨b1, h1⟩ : ∃ z, decide (32 ≤ uv x) = z := ⟨_, rfl⟩
  obtain ⟨b2, h2⟩ : ∃ z, decide (uv x ≤ 126) = z := ⟨_, rfl⟩
  have hr : b = (b1 && b2) := by rw [← hb, ← h1, ← h2]; rfl
  have h1' : decide (uv x ≥ 32) = b1 := h1
  have HR := Lib.hid hr; clear hr hb h1
  cases b1 <;> cases b2
  all_goals
    go_enter Tryz.func69, Tryz.ntmps69
    go_wp2
    go_ret
    exact ⟨by rw [HR.out]; rfl, rfl⟩
theorem pred_pad (x : BitVec 8) (b : Bool) (w : World) (hb : notPlain x = b) : Calls Tryz.prog 68 #[.int .u8 (uv x)] w fun e w' => e = .returned (.bool b) ∧ w = w' := by
  obtain ⟨c, hc⟩ : ∃ z, Wire.plainB x = z := ⟨_, rfl⟩
  have hr : b = !c := by rw [← hb, ← hc]; rfl
  have HC := Lib.hid hc; have HR := Lib.hid hr; clear hr hb hc
  cases c
  all_goals
    go_enter Tryz.func68, Tryz.ntmps68
    go_wp2_with (go_at_call 69; refine (plain_any _ _ _ HC.out).mono ?_; rintro e w' ⟨rfl, rfl⟩)
    go_ret
    exact ⟨by rw [HR.out]; rfl, rfl⟩
theorem index_pad (v : Value) (l : List (BitVec 8)) (w : World) (hv : BytesV w v l) :
    Calls Tryz.prog 85 #[v, .func (.func 68) #[] #[]] w fun e w' => (∃ n : Int, e = .returned (.int .i64 n) ∧ decide (0 ≤ n) = l.any notPlain) ∧ w = w' := by
  obtain ⟨a, c, rfl, hn, hc, hm, hrow⟩ := hv
  have HROW := Lib.hid hrow; clear hrow
  have hm' : l.length ≤ 9223372036854775807 := by omega
  go_enter Tryz.func85, Tryz.ntmps85
  go_wp2
  go_loop [8] (fun i => ∃ k : Nat, k ≤ l.length ∧ i = .int .i64 k ∧ Hid ((l.take k).any notPlain = false)) (fun i => l.length - (intOf i).toNat)
  case atStart => exact ⟨0, by omega, rfl, rfl⟩
  case round =>
    obtain ⟨k, hk, rfl, hE⟩ := hrel
    by_cases hlt : k < l.length
    · obtain ⟨x, hx⟩ : ∃ x, l[k]? = some x := ⟨l[k], List.getElem?_eq_getElem hlt⟩
      obtain ⟨b, o, rfl, hcell⟩ := HROW.out.at (i := k) (v := .int .u8 (uv x)) (by rw [by8_get, hx]; rfl)
      obtain ⟨z, hz⟩ : ∃ z, notPlain x = z := ⟨_, rfl⟩
      have HS := Lib.hid (any_take notPlain l k x hx)
      have HH := Lib.hid (any_hit notPlain l k x hx)
      have HZ := Lib.hid hz
      clear hx hz
      cases z
      · go_wp2_with (go_at_call 68; refine (pred_pad _ _ _ HZ.out).mono ?_; rintro e w' ⟨rfl, rfl⟩)
        go_round
        case rel => exact ⟨k + 1, by omega, by go_num, by rw [HS.out, hE.out, HZ.out]; rfl⟩
        case measure => simp [intOf]; omega
      · go_wp2_with (go_at_call 68; refine (pred_pad _ _ _ HZ.out).mono ?_; rintro e w' ⟨rfl, rfl⟩)
        go_ret
        exact ⟨⟨_, rfl, by rw [HH.out HZ.out]; simp⟩, rfl⟩
    · obtain rfl : k = l.length := by omega
      go_wp2
      go_ret
      have h1 := hE.out
      rw [List.take_length] at h1
      exact ⟨⟨-1, rfl, by rw [h1]; rfl⟩, rfl⟩
theorem contains_pad (v : Value) (l : List (BitVec 8)) (b : Bool) (w : World) (hv : BytesV w v l) (hb : l.any notPlain = b) :
    Calls Tryz.prog 67 #[v, .func (.func 68) #[] #[]] w fun e w' => e = .returned (.bool b) ∧ w = w' := by
  subst hb
  have V := Lib.hid hv; clear hv
  go_enter Tryz.func67, Tryz.ntmps67
  go_wp2_with (go_at_call 85; refine (index_pad _ l _ V.out).mono ?_; rintro e w' ⟨⟨n, rfl, hn⟩, rfl⟩; have HN := Lib.hid hn; clear hn)
  go_ret
  exact ⟨by rw [← HN.out]; rfl, rfl⟩
theorem pred_text (x : BitVec 8) (b : Bool) (w : World) (hb : notPlain x = b) : Calls Tryz.prog 115 #[.int .u8 (uv x)] w fun e w' => e = .returned (.bool b) ∧ w = w' := by
  obtain ⟨c, hc⟩ : ∃ z, Wire.plainB x = z := ⟨_, rfl⟩
  have hr : b = !c := by rw [← hb, ← hc]; rfl
  have HC := Lib.hid hc; have HR := Lib.hid hr; clear hr hb hc
  cases c
  all_goals
    go_enter Tryz.func115, Tryz.ntmps115
    go_wp2_with (go_at_call 69; refine (plain_any _ _ _ HC.out).mono ?_; rintro e w' ⟨rfl, rfl⟩)
    go_ret
    exact ⟨by rw [HR.out]; rfl, rfl⟩
theorem index_text (v : Value) (l : List (BitVec 8)) (w : World) (hv : BytesV w v l) :
    Calls Tryz.prog 85 #[v, .func (.func 115) #[] #[]] w fun e w' => (∃ n : Int, e = .returned (.int .i64 n) ∧ decide (0 ≤ n) = l.any notPlain) ∧ w = w' := by
  obtain ⟨a, c, rfl, hn, hc, hm, hrow⟩ := hv
  have HROW := Lib.hid hrow; clear hrow
  have hm' : l.length ≤ 9223372036854775807 := by omega
  go_enter Tryz.func85, Tryz.ntmps85
  go_wp2
  go_loop [8] (fun i => ∃ k : Nat, k ≤ l.length ∧ i = .int .i64 k ∧ Hid ((l.take k).any notPlain = false)) (fun i => l.length - (intOf i).toNat)
  case atStart => exact ⟨0, by omega, rfl, rfl⟩
  case round =>
    obtain ⟨k, hk, rfl, hE⟩ := hrel
    by_cases hlt : k < l.length
    · obtain ⟨x, hx⟩ : ∃ x, l[k]? = some x := ⟨l[k], List.getElem?_eq_getElem hlt⟩
      obtain ⟨b, o, rfl, hcell⟩ := HROW.out.at (i := k) (v := .int .u8 (uv x)) (by rw [by8_get, hx]; rfl)
      obtain ⟨z, hz⟩ : ∃ z, notPlain x = z := ⟨_, rfl⟩
      have HS := Lib.hid (any_take notPlain l k x hx)
      have HH := Lib.hid (any_hit notPlain l k x hx)
      have HZ := Lib.hid hz
      clear hx hz
      cases z
      · go_wp2_with (go_at_call 115; refine (pred_text _ _ _ HZ.out).mono ?_; rintro e w' ⟨rfl, rfl⟩)
        go_round
        case rel => exact ⟨k + 1, by omega, by go_num, by rw [HS.out, hE.out, HZ.out]; rfl⟩
        case measure => simp [intOf]; omega
      · go_wp2_with (go_at_call 115; refine (pred_text _ _ _ HZ.out).mono ?_; rintro e w' ⟨rfl, rfl⟩)
        go_ret
        exact ⟨⟨_, rfl, by rw [HH.out HZ.out]; simp⟩, rfl⟩
    · obtain rfl : k = l.length := by omega
      go_wp2
      go_ret
      have h1 := hE.out
      rw [List.take_length] at h1
      exact ⟨⟨-1, rfl, by rw [h1]; rfl⟩, rfl⟩
theorem contains_text (v : Value) (l : List (BitVec 8)) (b : Bool) (w : World) (hv : BytesV w v l) (hb : l.any notPlain = b) :
    Calls Tryz.prog 67 #[v, .func (.func 115) #[] #[]] w fun e w' => e = .returned (.bool b) ∧ w = w' := by
  subst hb
  have V := Lib.hid hv; clear hv
  go_enter Tryz.func67, Tryz.ntmps67
  go_wp2_with (go_at_call 85; refine (index_text _ l _ V.out).mono ?_; rintro e w' ⟨⟨n, rfl, hn⟩, rfl⟩; have HN := Lib.hid hn; clear hn)
  go_ret
  exact ⟨by rw [← HN.out]; rfl, rfl⟩
namespace Wire
theorem plain_any (l : List (BitVec 8)) (b : Bool) (h : plain l = b) : l.any notPlain = !b := by
  subst h
  unfold plain notPlain
  induction l with
  | nil => rfl
  | cons x r ih => simp only [List.any_cons, List.all_cons, ih]; cases plainB x <;> simp
theorem repeat_sp (c : Nat) : (⟨(Lib.repeatL (⟨#[32]⟩ : ByteArray).data.toList c).toArray⟩ : ByteArray) = strOf (List.replicate c 32#8) := by
  unfold strOf
  congr 2
  induction c with
  | zero => rfl
  | succ c ih => rw [Lib.repeatL, ih, List.replicate_succ, List.map_cons]; rfl
theorem ofBitVec_beq (x : BitVec 8) : (UInt8.ofBitVec x == 32) = (x == 32#8) := by
  rw [Bool.eq_iff_iff, beq_iff_eq, beq_iff_eq]
  constructor
  · intro h; have := congrArg UInt8.toBitVec h; exact this
  · intro h; subst h; rfl
theorem dropWhile_map (l : List (BitVec 8)) : (l.map UInt8.ofBitVec).dropWhile (· == 32) = (l.dropWhile (· == 32#8)).map UInt8.ofBitVec := by
  induction l with
  | nil => rfl
  | cons x r ih =>
    rw [List.map_cons, List.dropWhile_cons, List.dropWhile_cons, ofBitVec_beq]
    split
    · exact ih
    · rfl
theorem trim_sp (l : List (BitVec 8)) : (⟨(Lib.trimRightB (strOf l).data.toList 32).toArray⟩ : ByteArray) = strOf (rstrip l) := by
  unfold strOf rstrip Lib.trimRightB
  congr 2
  rw [List.map_reverse, ← dropWhile_map, List.map_reverse]
end Wire
theorem Pad_no (l : List (BitVec 8)) (n e : Int) (w : World) (hl : l.length ≤ 9223372036854775807) (hn : -9223372036854775808 ≤ n) (he : Wire.padE l n = e) (h0 : e ≠ 0) :
    Calls Tryz.prog 52 #[.string (strOf l), .int .i64 n] w fun x w' => x = .returned (.tuple #[.slice none 0 0, .int .i64 e]) ∧ Below w.heap.size w w' := by
  obtain ⟨v, w1, hrun, hown, hb⟩ := conv_bytes w l (by omega)
  have O := Lib.hid hown; have B := Lib.hid hb; clear hown hb
  obtain ⟨av, nv, cv, hsv⟩ : ∃ a n c, v = .slice a n c := by obtain ⟨a, c, h, _⟩ := O.out.bytes; exact ⟨_, _, _, h⟩
  have hnv : nv = l.length := by
    obtain ⟨a, c, h, _⟩ := O.out.bytes
    rw [hsv] at h; injection h
  subst hsv hnv
  by_cases h1 : n < 0
  · obtain rfl : e = 2 := by rw [← he]; exact if_pos (.inl h1)
    clear he h0 hn
    go_enter Tryz.func52, Tryz.ntmps52
    go_wp2
    go_ret2
    exact ⟨rfl, B.out⟩
  · cases h2 : Wire.plain l
    · obtain rfl : e = 2 := by rw [← he]; exact if_pos (.inr h2)
      have HP := Lib.hid (Wire.plain_any l false h2)
      clear he h0 hn h2
      go_enter Tryz.func52, Tryz.ntmps52
      go_wp2_with (go_at_call 67; go_loud (refine (contains_pad _ l true _ O.out.bytes HP.out).mono ?_; rintro r w' ⟨rfl, rfl⟩))
      go_ret2
      exact ⟨rfl, B.out⟩
    · have HP := Lib.hid (Wire.plain_any l true h2)
      have he' : (if (l.length : Int) > n ∨ n > 1048576 then (5 : Int) else 0) = e := by
        rw [← he]; unfold Wire.padE; rw [if_neg (show ¬ (n < 0 ∨ Wire.plain l = false) by rintro (h | h); exact h1 h; rw [h2] at h; cases h)]
      have h3 : (l.length : Int) > n ∨ n > 1048576 := by
        by_cases h : (l.length : Int) > n ∨ n > 1048576
        · exact h
        · rw [if_neg h] at he'; exact absurd he'.symm h0
      obtain rfl : e = 5 := by rw [← he', if_pos h3]
      clear he h0 hn h2 he'
      by_cases h4 : (l.length : Int) > n
      · have d4 : decide (n < (l.length : Int)) = true := decide_eq_true h4
        clear h3 h4
        go_enter Tryz.func52, Tryz.ntmps52
        go_wp2_with (go_at_call 67; go_loud (refine (contains_pad _ l false _ O.out.bytes HP.out).mono ?_; rintro r w' ⟨rfl, rfl⟩))
        go_ret2
        exact ⟨rfl, B.out⟩
      · have d4 : decide (n < (l.length : Int)) = false := decide_eq_false h4
        have d5 : decide (1048576 < n) = true := decide_eq_true (by omega)
        clear h3 h4
        go_enter Tryz.func52, Tryz.ntmps52
        go_wp2_with (go_at_call 67; go_loud (refine (contains_pad _ l false _ O.out.bytes HP.out).mono ?_; rintro r w' ⟨rfl, rfl⟩))
        go_ret2
        exact ⟨rfl, B.out⟩
set_option maxRecDepth 8000 in
theorem Pad_ok (l : List (BitVec 8)) (n : Nat) (w : World) (hp : Wire.plain l = true) (hl : l.length ≤ n) (hn : n ≤ 1048576) :
    Calls Tryz.prog 52 #[.string (strOf l), .int .i64 n] w fun x w' => ∃ u, x = .returned (.tuple #[u, .int .i64 0]) ∧ OwnT w' w.heap.size u (l ++ List.replicate (n - l.length) 32#8) ∧ Below w.heap.size w w' := by
  obtain ⟨v, w1, hrun, hown, hb⟩ := conv_bytes w l (by omega)
  have O := Lib.hid hown; have B := Lib.hid hb; clear hown hb
  obtain ⟨av, nv, cv, hsv⟩ : ∃ a n c, v = .slice a n c := by obtain ⟨a, c, h, _⟩ := O.out.bytes; exact ⟨_, _, _, h⟩
  have hnv : nv = l.length := by
    obtain ⟨a, c, h, _⟩ := O.out.bytes
    rw [hsv] at h; injection h
  subst hsv hnv
  have HP := Lib.hid (Wire.plain_any l true hp)
  have d1 : decide ((n : Int) < 0) = false := decide_eq_false (by omega)
  have d4 : decide (n < l.length) = false := decide_eq_false (by omega)
  have d5 : decide (1048576 < (n : Int)) = false := decide_eq_false (by omega)
  obtain ⟨c, hc⟩ : ∃ c, n - l.length = c := ⟨_, rfl⟩
  have hnc : (n : Int) - (l.length : Int) = (c : Int) := by omega
  have hcb : (c : Int) ≤ 1048576 := by omega
  have HC := Lib.hid hc; have HL := Lib.hid hl; have HN := Lib.hid hn; have HR := Lib.hid (Wire.repeat_sp c)
  clear hp hc hl hn
  go_enter Tryz.func52, Tryz.ntmps52
  go_wp2_with (first
    | (go_at_call 67; go_loud (refine (contains_pad _ l false _ O.out.bytes HP.out).mono ?_; rintro r w' ⟨rfl, rfl⟩))
    | (go_at_call 70; go_loud (refine (Tryz.strings_Repeat ⟨#[32]⟩ c _ (by have := HC.out; have := HN.out; omega) (by have := HC.out; have := HN.out; show 1 * c ≤ _; omega)).mono ?_; rintro r w2 ⟨rfl, hw⟩; rw [HR.out]; have O2 := Lib.hid (O.out.below hw); have B2 := Lib.hid (gr_tr B.out hw); clear hw))
    | (at_builtin; go_loud (refine app_tail_str rfl (.tmp 25) (.tmp 30) rfl _ w.heap.size l (List.replicate c 32#8) rfl O2.out B2.out.size rfl (by have := HC.out; have := HL.out; have := HN.out; rw [List.length_replicate]; omega) ?_; intro v' w3 ho hb; have O3 := Lib.hid ho; have B3 := Lib.hid hb; clear ho hb)))
  go_ret2
  exact ⟨_, rfl, by rw [HC.out]; exact O3.out, B2.out.trans B3.out⟩
theorem Pad_at (l : List (BitVec 8)) (n e : Int) (m : List (BitVec 8)) (w : World) (hl : l.length ≤ 9223372036854775807) (hn : -9223372036854775808 ≤ n) (he : Wire.padE l n = e) (hm : Wire.pad l n = m) :
    Calls Tryz.prog 52 #[.string (strOf l), .int .i64 n] w fun x w' => ∃ u, x = .returned (.tuple #[u, .int .i64 e]) ∧ BytesV w' u m ∧ Below w.heap.size w w' := by
  by_cases h0 : e = 0
  · subst h0
    have h1 : ¬ (n < 0 ∨ Wire.plain l = false) := by
      intro h; unfold Wire.padE at he; rw [if_pos h] at he; cases he
    have h2 : ¬ ((l.length : Int) > n ∨ n > 1048576) := by
      intro h; unfold Wire.padE at he; rw [if_neg h1, if_pos h] at he; cases he
    obtain ⟨k, rfl⟩ : ∃ k : Nat, n = k := ⟨n.toNat, by omega⟩
    have hm' : l ++ List.replicate (k - l.length) 32#8 = m := by rw [← hm]; unfold Wire.pad; rw [if_pos he]; rfl
    refine (Pad_ok l k w (by cases h : Wire.plain l; exact absurd (.inr h) h1; rfl) (by omega) (by omega)).mono ?_
    rintro x w' ⟨u, hx, ho, hb⟩
    exact ⟨u, hx, hm' ▸ ho.bytes, hb⟩
  · obtain rfl : m = [] := by rw [← hm]; unfold Wire.pad; rw [if_neg (by rw [he]; exact h0)]
    refine (Pad_no l n e w hl hn he h0).mono ?_
    rintro x w' ⟨hx, hb⟩
    exact ⟨_, hx, BytesV.nil _, hb⟩
namespace Wire
def textE (l : List (BitVec 8)) : Int := if plain l then 0 else 2
def text (l : List (BitVec 8)) : List (BitVec 8) := if plain l then rstrip l else []
end Wire
theorem Text_at (v : Value) (l m : List (BitVec 8)) (e : Int) (w : World) (hv : BytesV w v l) (hl : l.length ≤ 140737488355328) (he : Wire.textE l = e) (hm : Wire.text l = m) :
    Calls Tryz.prog 100 #[v] w fun x w' => x = .returned (.tuple #[.string (strOf m), .int .i64 e]) ∧ w = w' := by
  have V := Lib.hid hv
  have hs := run_string hv
  have hsz : (strOf l).size ≤ 9223372036854775807 := by rw [str_size]; omega
  have HSZ := Lib.hid hsz; have HT := Lib.hid (Wire.trim_sp l)
  clear hsz
  cases h : Wire.plain l
  · obtain rfl : e = 2 := by rw [← he]; unfold Wire.textE; rw [h]; rfl
    obtain rfl : m = [] := by rw [← hm]; unfold Wire.text; rw [h]; rfl
    have HP := Lib.hid (Wire.plain_any l false h)
    clear he hm h hv
    go_enter Tryz.func100, Tryz.ntmps100
    go_wp2_with (go_at_call 67; go_loud (refine (contains_text _ l true _ V.out HP.out).mono ?_; rintro r w' ⟨rfl, rfl⟩))
    go_ret2
    exact ⟨rfl, rfl⟩
  · obtain rfl : e = 0 := by rw [← he]; unfold Wire.textE; rw [h]; rfl
    obtain rfl : m = Wire.rstrip l := by rw [← hm]; unfold Wire.text; rw [h]; rfl
    have HP := Lib.hid (Wire.plain_any l true h)
    clear he hm h hv
    go_enter Tryz.func100, Tryz.ntmps100
    go_wp2_with (first
      | (go_at_call 67; go_loud (refine (contains_text _ l false _ V.out HP.out).mono ?_; rintro r w' ⟨rfl, rfl⟩))
      | (go_at_call 116; go_loud (refine (Tryz.strings_TrimRight_one (strOf l) 32 (by decide) _ HSZ.out).mono ?_; rintro r w' ⟨rfl, rfl⟩; rw [HT.out])))
    go_ret2
    exact ⟨rfl, rfl⟩
end Go.Proofs.YtabfmhlhdebcpaaGreatDoor
