/- Descriptions of pages: what Decode answers, in plain lists. -/
import Derived.Test.YteicmbapipnbjaaSpareF
import Derived.Test.YteicmbapipnbjaaBurstMath
import Derived.Test.YteicmbapipnbjaaWireG
namespace Go.Proofs.Yteicmbapipnbjaa.Sp
open Go.RowKit
set_option linter.unusedVariables false
set_option linter.unusedSimpArgs false
def fk (b : List (BitVec 8)) : BitVec 8 := (Wire.get ((b.drop 4).take 1)).setWidth 8
def fs (b : List (BitVec 8)) : Int := uv (Wire.get ((b.drop 24).take 4))
def fq (b : List (BitVec 8)) : BitVec 64 := Wire.get ((b.drop 8).take 8)
def fp (b : List (BitVec 8)) : BitVec 64 := Wire.get ((b.drop 16).take 8)
def fi (b : List (BitVec 8)) : Int := uv (Wire.get ((b.drop 28).take 4))
def fn (b : List (BitVec 8)) : Int := uv (Wire.get ((b.drop 32).take 4))
def mg (b : List (BitVec 8)) : Bool := uv (Wire.get (b.take 4)) == 1280591427
def nz3 (b : List (BitVec 8)) : Bool := (((b.drop 4).drop 1).take 3).any nonzero
def nz24 (b : List (BitVec 8)) : Bool := ((b.drop 36).take 24).any nonzero
def vl (b : List (BitVec 8)) : Bool := valid (fk b) (fs b) (fq b) (fp b) (fi b) (fn b)
def good (b : List (BitVec 8)) : Bool := mg b && !nz3 b && !nz24 b && vl b
def err (d b : List (BitVec 8)) : Int := if b.length = 64 then if Wire.get (b.drop 60) = sumOf d b then if good b then 0 else 6 else 10 else 2
/-- The encoding of the fields that bytes hold. -/
def again (d b : List (BitVec 8)) : List (BitVec 8) := enc (fk b) (fs b) (fq b) (fp b) (fi b) (fn b) d
theorem le_take (m : List (BitVec 8)) (n : Nat) (h : m.length = n) (hn : n ≤ 8) : Wire.le (Wire.get m) n = m := by subst h; exact Wire.le_getv m hn
theorem zeros_of (m : List (BitVec 8)) (n : Nat) (h : m.length = n) (hz : m.any nonzero = false) : m = List.replicate n 0#8 := by
  rw [List.eq_replicate_iff]
  refine ⟨h, fun x hx => ?_⟩
  have h1 : nonzero x = false := by simpa using (List.any_eq_false.1 hz) x hx
  unfold nonzero at h1
  have h2 : uv x = 0 := by simpa using h1
  exact uv_inj (by rw [h2]; rfl)
theorem any_zeros (n : Nat) : (List.replicate n 0#8).any nonzero = false := by
  rw [List.any_eq_false]
  intro x hx
  rw [List.eq_of_mem_replicate hx]; decide
theorem le_small (x : BitVec 64) (n : Nat) (hn : n < 8) (h : uv x < 2 ^ (8 * n)) : Wire.get (Wire.le x n) = x := Wire.get_le x n (by omega) (fun _ => shr_small x (Int.ofNat_lt.1 (by unfold uv at h; push_cast; exact h)))
theorem cut_len (b : List (BitVec 8)) (h : b.length = 64) (o n : Nat) (ho : o + n ≤ 64) : ((b.drop o).take n).length = n := by simp; omega
theorem get_int (b : List (BitVec 8)) (o : Nat) : BitVec.ofInt 64 (uv (Wire.get ((b.drop o).take 4))) = Wire.get ((b.drop o).take 4) := by rw [ofInt_uv_to]; simp
theorem cut_next (b : List (BitVec 8)) (o n : Nat) : b.drop o = (b.drop o).take n ++ b.drop (o + n) := by
  rw [← List.drop_drop, List.take_append_drop]
theorem get1_le (m : List (BitVec 8)) (h : m.length = 1) : Wire.le (((Wire.get m).setWidth 8).setWidth 64) 1 = m := by
  match m, h with
  | [x], _ =>
    have : Wire.get [x] = x.setWidth 64 := by
      apply BitVec.eq_of_getLsbD_eq
      intro i hi
      rw [Wire.get_bit _ _ hi]
      by_cases h8 : i < 8
      · have e1 : i / 8 = 0 := by omega
        have e2 : i % 8 = i := by omega
        simp [e1, e2, h8, hi]
      · simp [h8, hi]
        exact BitVec.getLsbD_of_ge x i (by omega)
    rw [this]
    have e : ((x.setWidth 64).setWidth 8).setWidth 64 = x.setWidth 64 := by
      apply BitVec.eq_of_getLsbD_eq
      intro i hi
      simp
    rw [e, le_one]
theorem again_head {b : List (BitVec 8)} (h : b.length = 64) (hm : mg b = true) (h3 : nz3 b = false) (h24 : nz24 b = false) : body (fk b) (fs b) (fq b) (fp b) (fi b) (fn b) = b.take 60 := by
  unfold body head fk fs fq fp fi fn
  rw [get_int, get_int, get_int]
  have e0 : Wire.le magic 4 = b.take 4 := by
    have : Wire.get (b.take 4) = magic := uv_inj (by unfold mg at hm; rw [beq_iff_eq.1 hm]; decide)
    rw [← this]; exact le_take _ 4 (by simp; omega) (by omega)
  have e1 := get1_le ((b.drop 4).take 1) (cut_len b h 4 1 (by omega))
  have e3 : Wire.le 0#64 3 = ((b.drop 4).drop 1).take 3 := by
    rw [zeros_of _ 3 (by simp; omega) h3]; decide
  have e24 : List.replicate 24 0#8 = (b.drop 36).take 24 := (zeros_of _ 24 (cut_len b h 36 24 (by omega)) h24).symm
  rw [e0, e1, e3, e24, le_take _ 8 (cut_len b h 8 8 (by omega)) (by omega), le_take _ 8 (cut_len b h 16 8 (by omega)) (by omega), le_take _ 4 (cut_len b h 24 4 (by omega)) (by omega), le_take _ 4 (cut_len b h 28 4 (by omega)) (by omega), le_take _ 4 (cut_len b h 32 4 (by omega)) (by omega)]
  have hb : b.take 60 = b.take 4 ++ ((b.drop 4).take 1 ++ (((b.drop 4).drop 1).take 3 ++ ((b.drop 8).take 8 ++ ((b.drop 16).take 8 ++ ((b.drop 24).take 4 ++ ((b.drop 28).take 4 ++ ((b.drop 32).take 4 ++ (b.drop 36).take 24))))))) := by
    have k : ∀ (o n m : Nat), (b.drop o).take (n + m) = (b.drop o).take n ++ (b.drop (o + n)).take m := by
      intro o n m; rw [← List.drop_drop, List.take_add]
    have k0 := k 0 4 56; have k1 := k 4 1 55; have k2 := k 5 3 52; have k3 := k 8 8 44; have k4 := k 16 8 36; have k5 := k 24 4 32; have k6 := k 28 4 28; have k7 := k 32 4 24
    simp only [List.drop_zero, Nat.reduceAdd, Nat.zero_add] at k0 k1 k2 k3 k4 k5 k6 k7
    rw [k0, k1, k2, k3, k4, k5, k6, k7, List.drop_drop]
  rw [hb]
  simp only [List.append_assoc]
theorem good_again {d b : List (BitVec 8)} (h : b.length = 64) (hs : Wire.get (b.drop 60) = sumOf d b) (hg : good b = true) : again d b = b := by
  unfold good at hg
  simp only [Bool.and_eq_true, Bool.not_eq_true'] at hg
  obtain ⟨⟨⟨hm, h3⟩, h24⟩, _⟩ := hg
  unfold again enc
  rw [again_head h hm h3 h24, show sumOf d (b.take 60) = sumOf d b by unfold sumOf; rw [List.take_take]; rfl, ← hs, le_take _ 4 (by simp; omega) (by omega), List.take_append_drop]
theorem enc_cut {k : BitVec 8} {s : Int} {q p : BitVec 64} {i n : Int} {d : List (BitVec 8)} :
    (enc k s q p i n d).take 4 = Wire.le magic 4 ∧ ((enc k s q p i n d).drop 4).take 1 = Wire.le (k.setWidth 64) 1 ∧ (((enc k s q p i n d).drop 4).drop 1).take 3 = Wire.le 0#64 3 ∧ ((enc k s q p i n d).drop 8).take 8 = Wire.le q 8 ∧ ((enc k s q p i n d).drop 16).take 8 = Wire.le p 8 ∧ ((enc k s q p i n d).drop 24).take 4 = Wire.le (BitVec.ofInt 64 s) 4 ∧ ((enc k s q p i n d).drop 28).take 4 = Wire.le (BitVec.ofInt 64 i) 4 ∧ ((enc k s q p i n d).drop 32).take 4 = Wire.le (BitVec.ofInt 64 n) 4 ∧ ((enc k s q p i n d).drop 36).take 24 = List.replicate 24 0#8 ∧ (enc k s q p i n d).drop 60 = Wire.le (sumOf d (body k s q p i n)) 4 ∧ (enc k s q p i n d).take 60 = body k s q p i n := by
  unfold enc body head
  generalize sumOf d _ = x
  refine ⟨?_, ?_, ?_, ?_, ?_, ?_, ?_, ?_, ?_, ?_, ?_⟩ <;> simp [Wire.le_len, List.drop_append, List.take_append, List.drop_of_length_le, List.take_of_length_le]
theorem enc_marks (k : BitVec 8) (s : Int) (q p : BitVec 64) (i n : Int) (d : List (BitVec 8)) : mg (enc k s q p i n d) = true ∧ nz3 (enc k s q p i n d) = false ∧ nz24 (enc k s q p i n d) = false := by
  obtain ⟨h0, h1, h2, h3, h4, h5, h6, h7, h8, h9, h10⟩ := enc_cut (k := k) (s := s) (q := q) (p := p) (i := i) (n := n) (d := d)
  refine ⟨?_, ?_, ?_⟩
  · unfold mg; rw [h0]; decide
  · unfold nz3; rw [h2]; decide
  · unfold nz24; rw [h8]; exact any_zeros 24
theorem again_good {d b : List (BitVec 8)} (hv : vl b = true) (he : again d b = b) : good b = true := by
  obtain ⟨h1, h2, h3⟩ := enc_marks (fk b) (fs b) (fq b) (fp b) (fi b) (fn b) d
  have he' : enc (fk b) (fs b) (fq b) (fp b) (fi b) (fn b) d = b := he
  rw [he'] at h1 h2 h3
  unfold good; rw [h1, h2, h3, hv]; rfl
/-- What was encoded is decoded. -/
theorem enc_fields {k : BitVec 8} {s : Int} {q p : BitVec 64} {i n : Int} (d : List (BitVec 8)) (hv : valid k s q p i n = true) :
    fk (enc k s q p i n d) = k ∧ fs (enc k s q p i n d) = s ∧ fq (enc k s q p i n d) = q ∧ fp (enc k s q p i n d) = p ∧ fi (enc k s q p i n d) = i ∧ fn (enc k s q p i n d) = n := by
  obtain ⟨h0, h1, h2, h3, h4, h5, h6, h7, h8, h9, h10⟩ := enc_cut (k := k) (s := s) (q := q) (p := p) (i := i) (n := n) (d := d)
  obtain ⟨r1, r2, r3, r4, r5, r6, _⟩ := valid_range hv
  have i4 : ∀ x : Int, 0 ≤ x → x < 4294967296 → uv (Wire.get (Wire.le (BitVec.ofInt 64 x) 4)) = x := by
    intro x h0 h1
    have e := uv_of_range 64 x h0 (by omega)
    rw [le_small _ 4 (by omega) (by rw [← e]; omega), ← e]
  refine ⟨?_, ?_, ?_, ?_, ?_, ?_⟩
  · unfold fk
    rw [h1, le_small _ 1 (by omega) (by rw [uv_sw8]; have := uv8_lt k; omega)]
    simp
  · unfold fs; rw [h5]; exact i4 s (by omega) (by omega)
  · unfold fq; rw [h3]; exact Wire.get_le q 8 (by omega) (by omega)
  · unfold fp; rw [h4]; exact Wire.get_le p 8 (by omega) (by omega)
  · unfold fi; rw [h6]; exact i4 i (by omega) (by omega)
  · unfold fn; rw [h7]; exact i4 n (by omega) (by omega)
theorem sum_lt (d l : List (BitVec 8)) : uv (sumOf d l) < 4294967296 := by
  unfold sumOf uv
  rw [BitVec.toNat_setWidth]
  have := (Dig.crc32 (d ++ l.take 60)).isLt
  omega
theorem enc_sum (k : BitVec 8) (s : Int) (q p : BitVec 64) (i n : Int) (d : List (BitVec 8)) : Wire.get ((enc k s q p i n d).drop 60) = sumOf d (enc k s q p i n d) := by
  obtain ⟨h0, h1, h2, h3, h4, h5, h6, h7, h8, h9, h10⟩ := enc_cut (k := k) (s := s) (q := q) (p := p) (i := i) (n := n) (d := d)
  rw [h9, le_small _ 4 (by omega) (by have := sum_lt d (body k s q p i n); omega)]
  exact (sumOf_take d _ _ h10).symm ▸ rfl
theorem err_enc {k : BitVec 8} {s : Int} {q p : BitVec 64} {i n : Int} (d : List (BitVec 8)) (hv : valid k s q p i n = true) : err d (enc k s q p i n d) = 0 := by
  obtain ⟨a1, a2, a3, a4, a5, a6⟩ := enc_fields d hv
  obtain ⟨m1, m2, m3⟩ := enc_marks k s q p i n d
  unfold err
  rw [if_pos (enc_len ..), if_pos (enc_sum ..), if_pos]
  unfold good vl
  rw [m1, m2, m3, a1, a2, a3, a4, a5, a6, hv]; rfl
end Go.Proofs.Yteicmbapipnbjaa.Sp
