/- Descriptions of pages: the bytes of one, and the walk of spare.Encode. -/
import Derived.Test.YteicmbapipnbjaaSpareB
namespace Go.Proofs.Yteicmbapipnbjaa
open Go.RowKit
set_option linter.unusedVariables false
set_option linter.unusedSimpArgs false
namespace Sp
def magic : BitVec 64 := 1280591427#64
def fl (k : BitVec 8) (s : Int) (q p : BitVec 64) (i n : Int) : List WF :=
  [(magic, 4), (k.setWidth 64, 1), (0#64, 3), (q, 8), (p, 8), (BitVec.ofInt 64 s, 4), (BitVec.ofInt 64 i, 4), (BitVec.ofInt 64 n, 4)]
def head (k : BitVec 8) (s : Int) (q p : BitVec 64) (i n : Int) : List (BitVec 8) :=
  Wire.le magic 4 ++ (Wire.le (k.setWidth 64) 1 ++ (Wire.le 0#64 3 ++ (Wire.le q 8 ++ (Wire.le p 8 ++ (Wire.le (BitVec.ofInt 64 s) 4 ++ (Wire.le (BitVec.ofInt 64 i) 4 ++ Wire.le (BitVec.ofInt 64 n) 4))))))
theorem head_len (k : BitVec 8) (s : Int) (q p : BitVec 64) (i n : Int) : (head k s q p i n).length = 36 := by simp [head, Wire.le_len]
def body (k : BitVec 8) (s : Int) (q p : BitVec 64) (i n : Int) : List (BitVec 8) := head k s q p i n ++ List.replicate 24 0#8
theorem body_len (k : BitVec 8) (s : Int) (q p : BitVec 64) (i n : Int) : (body k s q p i n).length = 60 := by simp [body, head_len]
/-- The checksum of the data and the first 60 bytes. -/
def sumOf (d l : List (BitVec 8)) : BitVec 64 := (Dig.crc32 (d ++ l.take 60)).setWidth 64
def enc (k : BitVec 8) (s : Int) (q p : BitVec 64) (i n : Int) (d : List (BitVec 8)) : List (BitVec 8) := body k s q p i n ++ Wire.le (sumOf d (body k s q p i n)) 4
theorem enc_len (k : BitVec 8) (s : Int) (q p : BitVec 64) (i n : Int) (d : List (BitVec 8)) : (enc k s q p i n d).length = 64 := by simp [enc, body_len, Wire.le_len]
theorem shr_small {m : Nat} (x : BitVec 64) (h : x.toNat < 2 ^ m) : x >>> m = 0#64 := by
  apply BitVec.eq_of_toNat_eq
  rw [BitVec.toNat_ushiftRight, Nat.shiftRight_eq_div_pow, Nat.div_eq_of_lt h]; rfl
theorem shr_int (x : Int) (h0 : 0 ≤ x) (h : x < 4294967296) : BitVec.ofInt 64 x >>> 32 = 0#64 := by
  apply shr_small
  rw [BitVec.toNat_ofInt]
  have : x % ((2 ^ 64 : Nat) : Int) = x := Int.emod_eq_of_lt h0 (by omega)
  rw [this]; omega
theorem shr_sum (d l : List (BitVec 8)) : sumOf d l >>> 32 = 0#64 := by
  apply shr_small
  unfold sumOf
  rw [BitVec.toNat_setWidth]
  have := (Dig.crc32 (d ++ l.take 60)).isLt
  rw [Nat.mod_eq_of_lt (by omega)]; exact this
theorem valid_range {k : BitVec 8} {s : Int} {q p : BitVec 64} {i n : Int} (h : valid k s q p i n = true) : 0 ≤ s ∧ s ≤ 4294967294 ∧ 0 ≤ i ∧ i < n ∧ 1 ≤ n ∧ n ≤ 65535 ∧ 1 ≤ uv q := by
  unfold valid at h
  by_cases hb : bad q i n = true
  · rw [if_pos hb] at h; cases h
  · rw [if_neg hb] at h
    unfold bad at hb
    simp only [Bool.or_eq_true, decide_eq_true_eq, not_or, Int.not_lt, Int.not_le] at hb
    obtain ⟨⟨⟨⟨h1, h2⟩, h3⟩, h4⟩, h5⟩ := hb
    have hs : 0 ≤ s ∧ s ≤ 4294967294 := by
      by_cases hk : (uv k == 1) = true
      · rw [if_pos hk] at h
        unfold data at h
        simp only [Bool.and_eq_true, decide_eq_true_eq] at h
        exact ⟨h.1.1.1, h.1.1.2⟩
      · rw [if_neg hk] at h
        split at h
        · unfold delta at h
          simp only [Bool.and_eq_true, decide_eq_true_eq, beq_iff_eq] at h
          obtain ⟨⟨rfl, _⟩, _⟩ := h
          omega
        · cases h
    exact ⟨hs.1, hs.2, h4, h5, h2, h3, h1⟩
theorem putE4 (x : BitVec 64) (h : x >>> 32 = 0#64) : Wire.putE x 4 = 0 := Wire.putE_ok x 4 (by omega) (by omega) (fun _ => h)
theorem putB4 (x : BitVec 64) (h : x >>> 32 = 0#64) : Wire.putB x 4 = Wire.le x 4 := Wire.putB_ok x 4 (putE4 x h)
theorem putE8 (x : BitVec 64) : Wire.putE x 8 = 0 := Wire.putE_ok x 8 (by omega) (by omega) (fun h => absurd h (by omega))
theorem putB8 (x : BitVec 64) : Wire.putB x 8 = Wire.le x 8 := Wire.putB_ok x 8 (putE8 x)
theorem putE1 (k : BitVec 8) : Wire.putE (k.setWidth 64) 1 = 0 := Wire.putE_ok _ 1 (by omega) (by omega) (fun _ => shr_small _ (by rw [BitVec.toNat_setWidth]; have := k.isLt; rw [Nat.mod_eq_of_lt (by omega)]; exact this))
theorem putB1 (k : BitVec 8) : Wire.putB (k.setWidth 64) 1 = Wire.le (k.setWidth 64) 1 := Wire.putB_ok _ 1 (putE1 k)
theorem putE3 : Wire.putE 0#64 3 = 0 := Wire.putE_ok 0#64 3 (by omega) (by omega) (fun _ => by decide)
theorem putB3 : Wire.putB 0#64 3 = Wire.le 0#64 3 := Wire.putB_ok 0#64 3 putE3
theorem allB_head {k : BitVec 8} {s : Int} {q p : BitVec 64} {i n : Int} (h : valid k s q p i n = true) : Wire.allB (fl k s q p i n) = head k s q p i n := by
  obtain ⟨h1, h2, h3, h4, h5, h6, h7⟩ := valid_range h
  have e0 : magic >>> 32 = 0#64 := by decide
  have e1 := shr_int s h1 (by omega)
  have e2 := shr_int i h3 (by omega)
  have e3 := shr_int n (by omega) (by omega)
  have hE : Wire.allE (fl k s q p i n) = 0 := by
    simp only [fl, Wire.allE, putE4 _ e0, putE4 _ e1, putE4 _ e2, putE4 _ e3, putE8, putE1, putE3, if_pos]
  unfold Wire.allB
  rw [if_pos hE]
  simp only [fl, Wire.cat, List.flatMap_cons, List.flatMap_nil, putB4 _ e0, putB4 _ e1, putB4 _ e2, putB4 _ e3, putB8, putB1, putB3, List.append_nil, head]
theorem allB_sum (d l : List (BitVec 8)) : Wire.allB [(sumOf d l, 4)] = Wire.le (sumOf d l) 4 := by
  have e := shr_sum d l
  unfold Wire.allB
  simp only [Wire.allE, putE4 _ e, if_pos, Wire.cat, List.flatMap_cons, List.flatMap_nil, putB4 _ e, List.append_nil]
end Sp
theorem below_get {w w' : World} {b o : Nat} {v : Value} (h : Below w.heap.size w w') (hc : w.cell? ⟨b, o, none⟩ = some v) : w'.cell? ⟨b, o, none⟩ = some v := (Chg.of_below (B := fun _ => False) h).cell hc id
theorem uv_sw8 (k : BitVec 8) : uv (k.setWidth 64) = uv k := by
  unfold uv; rw [BitVec.toNat_setWidth]; have := k.isLt; rw [Nat.mod_eq_of_lt (by omega)]
theorem Encode5_no (k : BitVec 8) (s : Int) (q p : BitVec 64) (i n : Int) (v : Value) (w : World) (h : Sp.valid k s q p i n = false) :
    Calls Try.prog 9 #[.agg #[.int .u8 (uv k), .int .i64 s, .int .u64 (uv q), .int .u64 (uv p), .int .i64 i, .int .i64 n], v] w fun e w' => e = .returned (.tuple #[.slice none 0 0, .int .i64 2]) ∧ Below w.heap.size w w' := by
  have H := Lib.hid h; clear h
  go_enter Try.func9, Try.ntmps9
  go_wp2_with (go_at_call 13; refine (Valid_any k s q p i n false _ H.out).mono ?_; rintro e w1 ⟨rfl, hw1⟩; have B1 := Lib.hid (gr_tr (gr_alloc _ _) hw1); clear hw1)
  go_ret2
  exact ⟨rfl, B1.out⟩
set_option maxRecDepth 4000 in
set_option maxHeartbeats 1600000 in
theorem Encode5_ok (k : BitVec 8) (s : Int) (q p : BitVec 64) (i n : Int) (v : Value) (d : List (BitVec 8)) (w : World) (h : Sp.valid k s q p i n = true) (hv : BytesV w v d) (hs : d.length ≤ 1000000) :
    Calls Try.prog 9 #[.agg #[.int .u8 (uv k), .int .i64 s, .int .u64 (uv q), .int .u64 (uv p), .int .i64 i, .int .i64 n], v] w fun e w' => ∃ x, e = .returned (.tuple #[x, .int .i64 0]) ∧ w'.ownsRow w.heap.size 5 1 x (Sp.enc k s q p i n d).length (by8 (Sp.enc k s q p i n d)) ∧ Below w.heap.size w w' := by
  have F1 := Lib.hid (fun w => FieldsV.lit w #[.int .u64 1280591427, .int .i64 4, .int .u64 (uv k), .int .i64 1, .int .u64 0, .int .i64 3, .int .u64 (uv q), .int .i64 8, .int .u64 (uv p), .int .i64 8, .int .u64 (uv (BitVec.ofInt 64 s)), .int .i64 4, .int .u64 (uv (BitVec.ofInt 64 i)), .int .i64 4, .int .u64 (uv (BitVec.ofInt 64 n)), .int .i64 4] 51 (Sp.fl k s q p i n) 8 rfl (by have e := uv_sw8 k; simp [fCells, Sp.fl, Sp.magic, e]; exact ⟨rfl, rfl⟩) (by omega))
  have F2 := Lib.hid (fun w (x : BitVec 64) => FieldsV.lit w #[.int .u64 (uv x), .int .i64 4] 51 [(x, 4)] 1 rfl rfl (by omega))
  have HB := Lib.hid (Sp.allB_head h)
  obtain ⟨hd, hhd⟩ : ∃ z, Sp.head k s q p i n = z := ⟨_, rfl⟩
  have hl36 : hd.length = 36 := by rw [← hhd]; exact Sp.head_len ..
  have hbody : Sp.body k s q p i n = hd ++ List.replicate 24 0#8 := by rw [← hhd]; rfl
  obtain ⟨bd, hbd⟩ : ∃ z, Sp.body k s q p i n = z := ⟨_, rfl⟩
  obtain ⟨x, hx⟩ : ∃ z, Sp.sumOf d bd = z := ⟨_, rfl⟩
  have hen : Sp.enc k s q p i n d = bd ++ Wire.le x 4 := by rw [← hx, ← hbd]; rfl
  have hl60 : bd.length = 60 := by rw [← hbd]; exact Sp.body_len ..
  have hfl : [bd, Wire.le x 4].flatten = bd ++ Wire.le x 4 := by simp
  have hll : [bd, Wire.le x 4].flatten.length ≤ 140737488355328 := by rw [hfl]; simp [Wire.le_len, hl60]
  have hsum : Wire.allB [(x, 4)] = Wire.le x 4 := by rw [← hx]; exact Sp.allB_sum d bd
  rw [hbd] at hbody
  rw [hen]
  have HHD := Lib.hid hhd; have HL := Lib.hid hl36; have HBODY := Lib.hid hbody; have HX := Lib.hid hx; have HL6 := Lib.hid hl60; have HFL := Lib.hid hfl; have HLL := Lib.hid hll; have HSUM := Lib.hid hsum
  have H := Lib.hid h; have V := Lib.hid hv; have HS := Lib.hid hs
  clear hhd hl36 hbody hx hl60 hfl hll hsum h hv hs hbd hen
  go_enter Try.func9, Try.ntmps9
  go_wp2_with (first
    | (go_at_call 13; (refine (Valid_any k s q p i n true _ H.out).mono ?_; rintro e w1 ⟨rfl, hw1⟩; have d0 : w1.cell? ⟨w.heap.size, 0, none⟩ = some (.int .u8 (uv k)) := below_get hw1 (by simp [go_sem]); have d1 : w1.cell? ⟨w.heap.size, 1, none⟩ = some (.int .i64 s) := below_get hw1 (by simp [go_sem]); have d2 : w1.cell? ⟨w.heap.size, 2, none⟩ = some (.int .u64 (uv q)) := below_get hw1 (by simp [go_sem]); have d3 : w1.cell? ⟨w.heap.size, 3, none⟩ = some (.int .u64 (uv p)) := below_get hw1 (by simp [go_sem]); have d4 : w1.cell? ⟨w.heap.size, 4, none⟩ = some (.int .i64 i) := below_get hw1 (by simp [go_sem]); have d5 : w1.cell? ⟨w.heap.size, 5, none⟩ = some (.int .i64 n) := below_get hw1 (by simp [go_sem]); have B1 := Lib.hid (gr_tr (gr_alloc _ _) hw1); clear hw1))
    | (go_at_call 21; (refine (fields_any _ (Sp.fl k s q p i n) _ _ (F1.out w1) (by simp [Sp.fl]) HB.out).mono ?_); rintro r w2 ⟨y, rfl, hown, hb2⟩; rw [HHD.out] at hown; obtain ⟨ay, cy, rfl⟩ := own_shape hown; rw [HL.out]; have O2 := Lib.hid (own_base hown (gr_tr B1.out (gr_alloc _ _)).size); have B2 := Lib.hid (gr_tr B1.out (gr_tr (gr_alloc _ _) hb2)); clear hown hb2)
    | (at_builtin; refine app_zeros rfl (.tmp 36) (.tmp 39) rfl _ w.heap.size hd (by rw [HL.out]; rfl) O2.out (by rw [HL.out]; omega) B2.out.size 24 rfl (by omega) (by rw [HL.out]; omega) ?_; intro y3 w3 hown hb3; rw [← HBODY.out] at hown; obtain ⟨a3, c3, rfl⟩ := own_shape hown; have O3 := Lib.hid hown; have B3 := Lib.hid (gr_base B2.out hb3); clear hown hb3)
    | (go_at_call 23; refine (check_at _ _ d bd x _ (V.out.below B3.out) (BytesV.of_own O3.out) (by rw [HL6.out]; omega) HS.out HX.out).mono ?_; rintro r w4 ⟨rfl, hb4⟩; have O4 := Lib.hid (own_below O3.out hb4); have B4 := Lib.hid (gr_tr B3.out hb4); clear hb4)
    | (go_at_call 21; (refine (fields_any _ [(x, 4)] _ _ (F2.out w4 x) (by simp) HSUM.out).mono ?_; rintro r w5 ⟨y5, rfl, hown, hb5⟩; obtain ⟨a5, c5, rfl⟩ := own_shape hown; have hb5' := gr_tr (gr_alloc _ _) hb5; have L2 := Lib.hid (lits2 (BytesV.of_own (own_below O4.out hb5')) (BytesV.of_own hown)); have B5 := Lib.hid (gr_tr B4.out hb5'); clear hown hb5 hb5'))
    | (go_at_call 22; go_loud (refine (Concat_any _ [bd, Wire.le x 4] _ (PartsV.lit _ _ _ _ 2 rfl rfl (by omega) L2.out) HLL.out).mono ?_); rintro r w6 ⟨y6, rfl, hown, hb6⟩; rw [HFL.out] at hown; have hb6' := gr_tr B5.out (gr_tr (gr_alloc _ _) hb6); have O6 := Lib.hid (own_base hown (gr_tr B5.out (gr_alloc _ _)).size); have B6 := Lib.hid hb6'; clear hown hb6 hb6'))
  go_ret2
  exact ⟨_, rfl, O6.out, B6.out⟩
end Go.Proofs.Yteicmbapipnbjaa
