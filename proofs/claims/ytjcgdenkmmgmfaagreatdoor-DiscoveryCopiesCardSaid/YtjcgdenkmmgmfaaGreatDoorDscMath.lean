/- Discovery: records, their bytes, log pages: plain laws. -/
import Derived.Test.YtjcgdenkmmgmfaaGreatDoorWireMath2
import Derived.Test.YtjcgdenkmmgmfaaGreatDoorLayMath
namespace Go.Proofs.YtjcgdenkmmgmfaaGreatDoor
open Go.RowKit
set_option linter.unusedVariables false
set_option linter.unusedSimpArgs false
namespace Dsc
def cut (l : List (BitVec 8)) (a n : Nat) : List (BitVec 8) := (l.drop a).take n
theorem cut_len {l : List (BitVec 8)} {a n : Nat} (h : a + n ≤ l.length) : (cut l a n).length = n := by
  unfold cut; rw [List.length_take, List.length_drop]; omega
def num (l : List (BitVec 8)) (a n : Nat) : BitVec 64 := Wire.get (cut l a n)
def allZ (l : List (BitVec 8)) : Bool := l.all (· == 0#8)
theorem allZ_iff {l : List (BitVec 8)} : allZ l = true ↔ l = List.replicate l.length 0#8 := by
  unfold allZ
  rw [List.all_eq_true]
  constructor
  · intro h
    exact List.eq_replicate_of_mem (fun x hx => by simpa using h x hx)
  · intro h x hx
    rw [h] at hx
    simp [List.eq_of_mem_replicate hx]
theorem num_le (l : List (BitVec 8)) (a n : Nat) (h : a + n ≤ l.length) (h8 : n ≤ 8) : Wire.le (num l a n) n = cut l a n := by
  have hl := cut_len h
  have := Wire.le_getv (cut l a n) (by omega)
  rw [hl] at this
  exact this
theorem num_lt (l : List (BitVec 8)) (a n : Nat) (h : a + n ≤ l.length) (h8 : n < 8) : (num l a n).toNat < 2 ^ (8 * n) := by
  have hl := cut_len h
  have h2 := congrArg BitVec.toNat (Wire.get_high (cut l a n) (by omega))
  rw [BitVec.toNat_ushiftRight, Nat.shiftRight_eq_div_pow, hl] at h2
  have hz : (0#64).toNat = 0 := rfl
  rw [hz] at h2
  exact (Nat.div_eq_zero_iff.1 h2).resolve_left (by have := Nat.two_pow_pos (8 * n); omega)
theorem num_back16 (l : List (BitVec 8)) (a : Nat) (h : a + 2 ≤ l.length) : ((num l a 2).setWidth 16).setWidth 64 = num l a 2 := by
  apply BitVec.eq_of_toNat_eq
  have := num_lt l a 2 h (by decide)
  rw [BitVec.toNat_setWidth, BitVec.toNat_setWidth]; omega
/-! texts -/
def inN (x : BitVec 8) : Bool := decide (33 ≤ uv x) && decide (uv x ≤ 126)
def txOk (l : List (BitVec 8)) (a b : Nat) : Bool := Wire.plain l && decide (a ≤ l.length) && decide (l.length ≤ b) && !(l.getLast? == some 32#8)
def nmOk (l : List (BitVec 8)) : Bool := l.all inN && decide (1 ≤ l.length) && decide (l.length ≤ 223)
theorem tw_all {α : Type} (p : α → Bool) : ∀ (l : List α) (x : α), x ∈ l.takeWhile p → p x = true
  | [], x, h => by simp at h
  | y :: l, x, h => by
    rw [List.takeWhile_cons] at h
    split at h
    · rename_i hy
      rcases List.mem_cons.1 h with rfl | h
      · exact hy
      · exact tw_all p l x h
    · simp at h
theorem rstrip_pad (l : List (BitVec 8)) (k : Nat) (h : l.getLast? ≠ some 32#8) : Wire.rstrip (l ++ List.replicate k 32#8) = l := by
  have key : ∀ (m : List (BitVec 8)), m.head? ≠ some 32#8 → (List.replicate k 32#8 ++ m).dropWhile (· == 32#8) = m := by
    intro m hm
    induction k with
    | zero =>
      rw [List.replicate_zero, List.nil_append]
      cases m with
      | nil => rfl
      | cons x m =>
        rw [List.dropWhile_cons]
        have : (x == 32#8) = false := by simpa using hm
        rw [this]; rfl
    | succ k ih =>
      rw [List.replicate_succ, List.cons_append, List.dropWhile_cons]
      exact ih
  unfold Wire.rstrip
  rw [List.reverse_append, List.reverse_replicate, key _ (by rw [List.head?_reverse]; exact h), List.reverse_reverse]
def upto0 (l : List (BitVec 8)) : List (BitVec 8) := l.takeWhile (fun x => !(x == 0#8))
theorem upto0_pad (l : List (BitVec 8)) (k : Nat) (h : ∀ x ∈ l, x ≠ 0#8) (hk : 0 < k) : upto0 (l ++ List.replicate k 0#8) = l := by
  unfold upto0
  induction l with
  | nil =>
    obtain ⟨k, rfl⟩ : ∃ j, k = j + 1 := ⟨k - 1, by omega⟩
    rw [List.nil_append, List.replicate_succ, List.takeWhile_cons]; rfl
  | cons x l ih =>
    rw [List.cons_append, List.takeWhile_cons]
    have hx : (x == 0#8) = false := by simpa using h x (by simp)
    rw [hx, ih (fun y hy => h y (by simp [hy]))]; rfl
/-! records -/
structure Rec where
  tr : BitVec 8
  fa : BitVec 8
  rf : Bool
  sc : Bool
  po : BitVec 16
  ct : BitVec 16
  qu : BitVec 16
  sv : List (BitVec 8)
  sb : List (BitVec 8)
  ad : List (BitVec 8)
namespace Rec
def nums (r : Rec) : Bool := decide (1 ≤ uv r.tr) && decide (uv r.tr ≤ 254) && decide (uv r.fa ≤ 254) && decide (32 ≤ uv r.qu) && !(r.rf && !decide (uv r.ct = 65535))
def ok (r : Rec) : Bool := r.nums && (txOk r.sv 0 32 && (txOk r.ad 1 256 && nmOk r.sb))
end Rec
def ch (b : Bool) : BitVec 8 := if b then 1#8 else 2#8
def le2 (x : BitVec 16) : List (BitVec 8) := Wire.le (x.setWidth 64) 2
theorem le2_len (x : BitVec 16) : (le2 x).length = 2 := Wire.le_len _ _
def padS (l : List (BitVec 8)) (n : Nat) (c : BitVec 8) : List (BitVec 8) := l ++ List.replicate (n - l.length) c
theorem padS_len {l : List (BitVec 8)} {n : Nat} (c : BitVec 8) (h : l.length ≤ n) : (padS l n c).length = n := by
  unfold padS; rw [List.length_append, List.length_replicate]; omega
namespace Rec
def four (r : Rec) : List (BitVec 8) := [r.tr, r.fa, ch r.rf, ch r.sc]
def six (r : Rec) : List (BitVec 8) := le2 r.po ++ (le2 r.ct ++ le2 r.qu)
def bytes (r : Rec) : List (BitVec 8) :=
  r.four ++ (r.six ++ (List.replicate 22 0#8 ++ (padS r.sv 32 32#8 ++ (List.replicate 192 0#8 ++ (padS r.sb 256 0#8 ++ (padS r.ad 256 32#8 ++ List.replicate 256 0#8))))))
theorem four_len (r : Rec) : r.four.length = 4 := rfl
theorem six_len (r : Rec) : r.six.length = 6 := by unfold six; simp [le2_len]
end Rec
theorem ok_parts {r : Rec} (h : r.ok = true) : r.nums = true ∧ txOk r.sv 0 32 = true ∧ txOk r.ad 1 256 = true ∧ nmOk r.sb = true := by
  unfold Rec.ok at h
  simp only [Bool.and_eq_true] at h
  exact ⟨h.1, h.2.1, h.2.2.1, h.2.2.2⟩
theorem txOk_len {l : List (BitVec 8)} {a b : Nat} (h : txOk l a b = true) : l.length ≤ b := by
  unfold txOk at h; simp only [Bool.and_eq_true, decide_eq_true_eq] at h; exact h.1.2
theorem txOk_last {l : List (BitVec 8)} {a b : Nat} (h : txOk l a b = true) : l.getLast? ≠ some 32#8 := by
  unfold txOk at h; simp only [Bool.and_eq_true] at h; simpa using h.2
theorem nmOk_len {l : List (BitVec 8)} (h : nmOk l = true) : l.length ≤ 223 := by
  unfold nmOk at h; simp only [Bool.and_eq_true, decide_eq_true_eq] at h; exact h.2
theorem nmOk_nz {l : List (BitVec 8)} (h : nmOk l = true) : ∀ x ∈ l, x ≠ 0#8 := by
  unfold nmOk at h; simp only [Bool.and_eq_true, List.all_eq_true] at h
  intro x hx e
  have := h.1.1 x hx
  subst e
  revert this; decide
theorem bytes_len {r : Rec} (h : r.ok = true) : r.bytes.length = 1024 := by
  obtain ⟨_, h1, h2, h3⟩ := ok_parts h
  have := padS_len 32#8 (txOk_len h1); have := padS_len 32#8 (txOk_len h2); have := padS_len (n := 256) 0#8 (by have := nmOk_len h3; omega : r.sb.length ≤ 256)
  unfold Rec.bytes
  simp only [List.length_append, List.length_replicate, Rec.four_len, Rec.six_len, *]
/-- Behind what is laid lies a stretch of one byte. -/
theorem lay_on (pre x : List (BitVec 8)) (g m p : Nat) (z : BitVec 8) (hp : p = pre.length + g) (h : g + x.length ≤ m) :
    Lay.lay (pre ++ List.replicate m z) p x = pre ++ (List.replicate g z ++ (x ++ List.replicate (m - g - x.length) z)) := by
  subst hp
  unfold Lay.lay
  rw [List.take_append, List.take_of_length_le (by omega), List.take_replicate, List.drop_append, List.drop_eq_nil_of_le (by omega), List.drop_replicate, List.nil_append, List.append_assoc]
  congr 2
  · congr 1; omega
  · congr 2; omega
theorem rep_split (a b : Nat) (z : BitVec 8) : List.replicate (a + b) z = List.replicate a z ++ List.replicate b z := (List.replicate_append_replicate).symm
/-- The program lays a record so. -/
theorem prog_bytes {r : Rec} (h : r.ok = true) :
    Lay.lay (Lay.lay (Lay.lay (Lay.lay (Lay.lay (List.replicate 1024 0#8) 0 r.four) 4 r.six) 32 (padS r.sv 32 32#8)) 256 r.sb) 512 (padS r.ad 256 32#8) = r.bytes := by
  obtain ⟨_, h1, h2, h3⟩ := ok_parts h
  have l1 := padS_len 32#8 (txOk_len h1); have l2 := padS_len 32#8 (txOk_len h2); have l3 := nmOk_len h3
  have l4 := r.four_len; have l6 := r.six_len
  have e1 : Lay.lay (List.replicate 1024 0#8) 0 r.four = r.four ++ List.replicate 1020 0#8 := by
    have := lay_on [] r.four 0 1024 0 0#8 rfl (by omega)
    rw [List.nil_append] at this
    rw [this, l4]; rfl
  have e2 : Lay.lay (r.four ++ List.replicate 1020 0#8) 4 r.six = (r.four ++ r.six) ++ List.replicate 1014 0#8 := by
    rw [lay_on r.four r.six 0 1020 4 0#8 (by omega) (by omega), l6, List.append_assoc]; rfl
  have e3 : Lay.lay ((r.four ++ r.six) ++ List.replicate 1014 0#8) 32 (padS r.sv 32 32#8) = (r.four ++ (r.six ++ (List.replicate 22 0#8 ++ padS r.sv 32 32#8))) ++ List.replicate 960 0#8 := by
    rw [lay_on _ _ 22 1014 32 0#8 (by simp [l4, l6]) (by omega), l1]; simp only [List.append_assoc]
  have l7 : (r.four ++ (r.six ++ (List.replicate 22 0#8 ++ padS r.sv 32 32#8))).length = 64 := by simp only [List.length_append, List.length_replicate, l4, l6, l1]
  have e4 : Lay.lay ((r.four ++ (r.six ++ (List.replicate 22 0#8 ++ padS r.sv 32 32#8))) ++ List.replicate 960 0#8) 256 r.sb = (r.four ++ (r.six ++ (List.replicate 22 0#8 ++ (padS r.sv 32 32#8 ++ (List.replicate 192 0#8 ++ r.sb))))) ++ List.replicate (768 - r.sb.length) 0#8 := by
    rw [lay_on _ _ 192 960 256 0#8 (by rw [l7]) (by omega)]; simp only [List.append_assoc]
  have l8 : (r.four ++ (r.six ++ (List.replicate 22 0#8 ++ (padS r.sv 32 32#8 ++ (List.replicate 192 0#8 ++ r.sb))))).length = 256 + r.sb.length := by simp only [List.length_append, List.length_replicate, l4, l6, l1]; omega
  rw [e1, e2, e3, e4, lay_on _ _ (256 - r.sb.length) (768 - r.sb.length) 512 0#8 (by rw [l8]; omega) (by omega), l2, show 768 - r.sb.length - (256 - r.sb.length) - 256 = 256 by omega]
  unfold Rec.bytes
  rw [show padS r.sb 256 0#8 = r.sb ++ List.replicate (256 - r.sb.length) 0#8 from rfl]
  simp only [List.append_assoc]
/-- The reference lays a record so. -/
theorem ref_bytes {r : Rec} (h : r.ok = true) :
    Lay.lay (Lay.lay (Lay.lay (Lay.lay (Lay.lay (Lay.lay (Lay.lay (List.replicate 1024 0#8) 0 r.four) 4 (le2 r.po)) 6 (le2 r.ct)) 8 (le2 r.qu)) 32 (padS r.sv 32 32#8)) 256 (padS r.sb 256 0#8)) 512 (padS r.ad 256 32#8) = r.bytes := by
  obtain ⟨_, h1, h2, h3⟩ := ok_parts h
  have l1 := padS_len 32#8 (txOk_len h1); have l2 := padS_len 32#8 (txOk_len h2); have l3 := padS_len (n := 256) 0#8 (by have := nmOk_len h3; omega : r.sb.length ≤ 256)
  have l4 := r.four_len; have l6 := r.six_len
  have la := le2_len r.po; have lb := le2_len r.ct; have lc := le2_len r.qu
  have e1 : Lay.lay (List.replicate 1024 0#8) 0 r.four = r.four ++ List.replicate 1020 0#8 := by
    have := lay_on [] r.four 0 1024 0 0#8 rfl (by omega)
    rw [List.nil_append] at this
    rw [this, l4]; rfl
  have e2 : Lay.lay (r.four ++ List.replicate 1020 0#8) 4 (le2 r.po) = (r.four ++ le2 r.po) ++ List.replicate 1018 0#8 := by
    rw [lay_on r.four _ 0 1020 4 0#8 (by omega) (by omega), la, List.append_assoc]; rfl
  have e2b : Lay.lay ((r.four ++ le2 r.po) ++ List.replicate 1018 0#8) 6 (le2 r.ct) = (r.four ++ (le2 r.po ++ le2 r.ct)) ++ List.replicate 1016 0#8 := by
    rw [lay_on _ _ 0 1018 6 0#8 (by simp [l4, la]) (by omega), lb]; simp only [List.append_assoc]; rfl
  have e2c : Lay.lay ((r.four ++ (le2 r.po ++ le2 r.ct)) ++ List.replicate 1016 0#8) 8 (le2 r.qu) = (r.four ++ r.six) ++ List.replicate 1014 0#8 := by
    rw [lay_on _ _ 0 1016 8 0#8 (by simp [l4, la, lb]) (by omega), lc]; unfold Rec.six; simp only [List.append_assoc]; rfl
  have e3 : Lay.lay ((r.four ++ r.six) ++ List.replicate 1014 0#8) 32 (padS r.sv 32 32#8) = (r.four ++ (r.six ++ (List.replicate 22 0#8 ++ padS r.sv 32 32#8))) ++ List.replicate 960 0#8 := by
    rw [lay_on _ _ 22 1014 32 0#8 (by simp [l4, l6]) (by omega), l1]; simp only [List.append_assoc]
  have l7 : (r.four ++ (r.six ++ (List.replicate 22 0#8 ++ padS r.sv 32 32#8))).length = 64 := by simp only [List.length_append, List.length_replicate, l4, l6, l1]
  have e4 : Lay.lay ((r.four ++ (r.six ++ (List.replicate 22 0#8 ++ padS r.sv 32 32#8))) ++ List.replicate 960 0#8) 256 (padS r.sb 256 0#8) = (r.four ++ (r.six ++ (List.replicate 22 0#8 ++ (padS r.sv 32 32#8 ++ (List.replicate 192 0#8 ++ padS r.sb 256 0#8))))) ++ List.replicate 512 0#8 := by
    rw [lay_on _ _ 192 960 256 0#8 (by rw [l7]) (by omega), l3]; simp only [List.append_assoc]
  have l8 : (r.four ++ (r.six ++ (List.replicate 22 0#8 ++ (padS r.sv 32 32#8 ++ (List.replicate 192 0#8 ++ padS r.sb 256 0#8))))).length = 512 := by simp only [List.length_append, List.length_replicate, l4, l6, l1, l3]
  rw [e1, e2, e2b, e2c, e3, e4, lay_on _ _ 0 512 512 0#8 (by rw [l8]) (by omega), l2]
  unfold Rec.bytes
  simp only [List.append_assoc]
  rfl
/-! parsing -/
def rdR (b : List (BitVec 8)) : Rec :=
  { tr := b.getD 0 0#8, fa := b.getD 1 0#8, rf := b.getD 2 0#8 == 1#8, sc := b.getD 3 0#8 == 1#8, po := (num b 4 2).setWidth 16, ct := (num b 6 2).setWidth 16, qu := (num b 8 2).setWidth 16,
    sv := Wire.rstrip (cut b 32 32), sb := upto0 (cut b 256 256), ad := Wire.rstrip (cut b 512 256) }
def prs (b : List (BitVec 8)) : Bool := (rdR b).ok && ((rdR b).bytes == b)
theorem cut_skip (a b : List (BitVec 8)) (p k n : Nat) (h : a.length = k) (hp : k ≤ p) : cut (a ++ b) p n = cut b (p - k) n := by
  unfold cut
  rw [List.drop_append, List.drop_eq_nil_of_le (by omega), List.nil_append, h]
theorem cut_here (a b : List (BitVec 8)) (n : Nat) (h : a.length = n) : cut (a ++ b) 0 n = a := by
  subst h; unfold cut; simp
theorem le2_back (x : BitVec 16) : (Wire.get (le2 x)).setWidth 16 = x := by
  unfold le2
  rw [Wire.get_le _ 2 (by decide) (fun _ => by
    apply BitVec.eq_of_toNat_eq
    rw [BitVec.toNat_ushiftRight, BitVec.toNat_setWidth, Nat.shiftRight_eq_div_pow]
    have := x.isLt
    show x.toNat % 2 ^ 64 / 2 ^ 16 = 0
    omega)]
  apply BitVec.eq_of_toNat_eq
  rw [BitVec.toNat_setWidth, BitVec.toNat_setWidth]
  have := x.isLt
  omega
theorem ch_back (b : Bool) : (ch b == 1#8) = b := by cases b <;> rfl
theorem rd_bytes {r : Rec} (h : r.ok = true) : rdR r.bytes = r := by
  obtain ⟨_, h1, h2, h3⟩ := ok_parts h
  have l1 := padS_len 32#8 (txOk_len h1); have l2 := padS_len 32#8 (txOk_len h2); have l3' := nmOk_len h3
  have l3 := padS_len (n := 256) 0#8 (by omega : r.sb.length ≤ 256)
  have l4 := r.four_len; have l6 := r.six_len
  have la := le2_len r.po; have lb := le2_len r.ct; have lc := le2_len r.qu
  have r22 : (List.replicate 22 0#8).length = 22 := List.length_replicate
  have r192 : (List.replicate 192 0#8).length = 192 := List.length_replicate
  have c4 : cut r.bytes 4 2 = le2 r.po := by
    unfold Rec.bytes Rec.six
    rw [cut_skip _ _ 4 4 2 l4 (by omega), List.append_assoc, Nat.sub_self, cut_here _ _ 2 la]
  have c6 : cut r.bytes 6 2 = le2 r.ct := by
    unfold Rec.bytes Rec.six
    rw [cut_skip _ _ 6 4 2 l4 (by omega), List.append_assoc, cut_skip _ _ _ 2 2 la (by omega), List.append_assoc]
    exact cut_here _ _ 2 lb
  have c8 : cut r.bytes 8 2 = le2 r.qu := by
    unfold Rec.bytes Rec.six
    rw [cut_skip _ _ 8 4 2 l4 (by omega), List.append_assoc, cut_skip _ _ _ 2 2 la (by omega), List.append_assoc, cut_skip _ _ _ 2 2 lb (by omega)]
    exact cut_here _ _ 2 lc
  have c32 : cut r.bytes 32 32 = padS r.sv 32 32#8 := by
    unfold Rec.bytes
    rw [cut_skip _ _ 32 4 32 l4 (by omega), cut_skip _ _ _ 6 32 l6 (by omega), cut_skip _ _ _ 22 32 r22 (by omega)]
    exact cut_here _ _ 32 l1
  have c256 : cut r.bytes 256 256 = padS r.sb 256 0#8 := by
    unfold Rec.bytes
    rw [cut_skip _ _ 256 4 256 l4 (by omega), cut_skip _ _ _ 6 256 l6 (by omega), cut_skip _ _ _ 22 256 r22 (by omega), cut_skip _ _ _ 32 256 l1 (by omega), cut_skip _ _ _ 192 256 r192 (by omega)]
    exact cut_here _ _ 256 l3
  have c512 : cut r.bytes 512 256 = padS r.ad 256 32#8 := by
    unfold Rec.bytes
    rw [cut_skip _ _ 512 4 256 l4 (by omega), cut_skip _ _ _ 6 256 l6 (by omega), cut_skip _ _ _ 22 256 r22 (by omega), cut_skip _ _ _ 32 256 l1 (by omega), cut_skip _ _ _ 192 256 r192 (by omega), cut_skip _ _ _ 256 256 l3 (by omega)]
    exact cut_here _ _ 256 l2
  have g : ∀ (i : Nat) (x : BitVec 8), r.four[i]? = some x → r.bytes.getD i 0#8 = x := by
    intro i x hi
    unfold Rec.bytes
    rw [List.getD_eq_getElem?_getD, List.getElem?_append_left (by have := (List.getElem?_eq_some_iff.1 hi).1; exact this), hi]; rfl
  have g0 := g 0 r.tr rfl; have g1 := g 1 r.fa rfl; have g2 := g 2 (ch r.rf) rfl; have g3 := g 3 (ch r.sc) rfl
  have p1 : Wire.rstrip (padS r.sv 32 32#8) = r.sv := rstrip_pad _ _ (txOk_last h1)
  have p2 : Wire.rstrip (padS r.ad 256 32#8) = r.ad := rstrip_pad _ _ (txOk_last h2)
  have p3 : upto0 (padS r.sb 256 0#8) = r.sb := upto0_pad _ _ (nmOk_nz h3) (by omega)
  unfold rdR num
  rw [c4, c6, c8, c32, c256, c512, g0, g1, g2, g3, p1, p2, p3, le2_back, le2_back, le2_back, ch_back, ch_back]
theorem prs_bytes {r : Rec} (h : r.ok = true) : prs r.bytes = true := by
  unfold prs; rw [rd_bytes h, h, beq_self_eq_true]; rfl
/-! log pages -/
def logOk (rs : List Rec) : Bool := decide (rs.length ≤ 256) && rs.all Rec.ok
def logE (rs : List Rec) : Int := if 256 < rs.length then 5 else if rs.all Rec.ok then 0 else 2
def head (g : BitVec 64) (n : Nat) : List (BitVec 8) := Wire.le g 8 ++ (Wire.le (BitVec.ofNat 64 n) 8 ++ List.replicate 1008 0#8)
theorem head_len (g : BitVec 64) (n : Nat) : (head g n).length = 1024 := by unfold head; rw [List.length_append, List.length_append, Wire.le_len, Wire.le_len, List.length_replicate]
def logB (g : BitVec 64) (rs : List Rec) : List (BitVec 8) := head g rs.length ++ (rs.map Rec.bytes).flatten
def logR (g : BitVec 64) (rs : List Rec) : List (BitVec 8) := if logE rs = 0 then logB g rs else []
theorem logE_ok {rs : List Rec} (h : logE rs = 0) : rs.length ≤ 256 ∧ ∀ r ∈ rs, r.ok = true := by
  unfold logE at h
  split at h
  · simp at h
  · split at h
    · rename_i h1 h2; exact ⟨by omega, List.all_eq_true.1 h2⟩
    · simp at h
theorem flat_len {rs : List Rec} (h : ∀ r ∈ rs, r.ok = true) : ((rs.map Rec.bytes).flatten).length = 1024 * rs.length := by
  induction rs with
  | nil => rfl
  | cons r rs ih =>
    rw [List.map_cons, List.flatten_cons, List.length_append, bytes_len (h r (by simp)), ih (fun x hx => h x (by simp [hx])), List.length_cons]; omega
theorem logB_len {g : BitVec 64} {rs : List Rec} (h : ∀ r ∈ rs, r.ok = true) : (logB g rs).length = 1024 * (1 + rs.length) := by
  unfold logB; rw [List.length_append, head_len, flat_len h]; omega
def chunk (b : List (BitVec 8)) (i : Nat) : List (BitVec 8) := cut b (1024 * i) 1024
def recsOf (b : List (BitVec 8)) (k : Nat) : List Rec := (List.range k).map fun i => rdR (chunk b (i + 1))
theorem recsOf_more (b : List (BitVec 8)) (k : Nat) : recsOf b (k + 1) = recsOf b k ++ [rdR (chunk b (k + 1))] := by unfold recsOf; rw [List.range_succ, List.map_append]; rfl
theorem recsOf_len (b : List (BitVec 8)) (k : Nat) : (recsOf b k).length = k := by unfold recsOf; simp
def fine (b : List (BitVec 8)) (k : Nat) : Bool := (List.range k).all fun i => prs (chunk b (i + 1))
theorem fine_more (b : List (BitVec 8)) (k : Nat) : fine b (k + 1) = (fine b k && prs (chunk b (k + 1))) := by unfold fine; rw [List.range_succ, List.all_append]; simp
theorem fine_no (b : List (BitVec 8)) (k n : Nat) (hk : k < n) (h : prs (chunk b (k + 1)) = false) : fine b n = false := by
  unfold fine
  rw [List.all_eq_false]
  exact ⟨k, List.mem_range.2 hk, by rw [h]; simp⟩
def decE (b : List (BitVec 8)) : Int :=
  if b.length < 1024 then 4
  else if allZ (cut b 16 1008) = false then 6
  else if 256 < (num b 8 8).toNat then 5
  else if b.length < 1024 * (1 + (num b 8 8).toNat) then 4
  else if 1024 * (1 + (num b 8 8).toNat) < b.length then 5
  else if fine b (num b 8 8).toNat then 0 else 6
def decG (b : List (BitVec 8)) : BitVec 64 := if decE b = 0 then num b 0 8 else 0#64
def decL (b : List (BitVec 8)) : List Rec := if decE b = 0 then recsOf b (num b 8 8).toNat else []
theorem decE_ok {b : List (BitVec 8)} (h : decE b = 0) : allZ (cut b 16 1008) = true ∧ (num b 8 8).toNat ≤ 256 ∧ b.length = 1024 * (1 + (num b 8 8).toNat) ∧ fine b (num b 8 8).toNat = true := by
  unfold decE at h
  repeat' (split at h)
  all_goals first | (simp at h; done) | skip
  rename_i h1 h2 h3 h4 h5 h6
  exact ⟨by simpa using h2, by omega, by omega, h6⟩
theorem flat_cut (rs : List Rec) (h : ∀ r ∈ rs, r.ok = true) : ∀ (i : Nat) (r : Rec), rs[i]? = some r → cut ((rs.map Rec.bytes).flatten) (1024 * i) 1024 = r.bytes := by
  induction rs with
  | nil => intro i r hi; simp at hi
  | cons x rs ih =>
    intro i r hi
    rw [List.map_cons, List.flatten_cons]
    have hx := bytes_len (h x (by simp))
    cases i with
    | zero =>
      simp at hi; subst hi
      rw [Nat.mul_zero]; exact cut_here _ _ 1024 hx
    | succ i =>
      rw [cut_skip _ _ _ 1024 1024 hx (by omega), show 1024 * (i + 1) - 1024 = 1024 * i by omega]
      exact ih (fun y hy => h y (by simp [hy])) i r (by simpa using hi)
theorem dec_log {g : BitVec 64} {rs : List Rec} (h : logE rs = 0) : decE (logB g rs) = 0 ∧ decG (logB g rs) = g ∧ decL (logB g rs) = rs := by
  obtain ⟨hn, hok⟩ := logE_ok h
  have hlen := logB_len (g := g) hok
  have hh := head_len g rs.length
  have n0 : num (logB g rs) 0 8 = g := by
    unfold num logB head
    rw [List.append_assoc, cut_here _ _ 8 (Wire.le_len _ _), Wire.get_le _ 8 (by decide) (fun h => absurd h (by decide))]
  have n8 : num (logB g rs) 8 8 = BitVec.ofNat 64 rs.length := by
    unfold num logB head
    rw [List.append_assoc, cut_skip _ _ 8 8 8 (Wire.le_len _ _) (by omega), List.append_assoc, cut_here _ _ 8 (Wire.le_len _ _), Wire.get_le _ 8 (by decide) (fun h => absurd h (by decide))]
  have m8 : (num (logB g rs) 8 8).toNat = rs.length := by
    rw [n8, BitVec.toNat_ofNat]; exact Nat.mod_eq_of_lt (by omega)
  have z16 : allZ (cut (logB g rs) 16 1008) = true := by
    unfold logB head
    rw [List.append_assoc, cut_skip _ _ 16 8 1008 (Wire.le_len _ _) (by omega), List.append_assoc, cut_skip _ _ _ 8 1008 (Wire.le_len _ _) (by omega), cut_here _ _ 1008 List.length_replicate]
    exact allZ_iff.2 (by rw [List.length_replicate])
  have ck : ∀ i r, rs[i]? = some r → chunk (logB g rs) (i + 1) = r.bytes := by
    intro i r hi
    unfold chunk logB
    rw [cut_skip _ _ _ 1024 1024 hh (by omega), show 1024 * (i + 1) - 1024 = 1024 * i by omega]
    exact flat_cut rs hok i r hi
  have f1 : fine (logB g rs) rs.length = true := by
    unfold fine
    rw [List.all_eq_true]
    intro i hi
    have hi := List.mem_range.1 hi
    rw [ck i rs[i] (List.getElem?_eq_getElem hi)]
    exact prs_bytes (hok _ (List.getElem_mem hi))
  have r1 : recsOf (logB g rs) rs.length = rs := by
    apply List.ext_getElem?
    intro i
    unfold recsOf
    rw [List.getElem?_map]
    by_cases hi : i < rs.length
    · rw [List.getElem?_range hi, List.getElem?_eq_getElem hi]
      show some (rdR (chunk (logB g rs) (i + 1))) = _
      rw [ck i rs[i] (List.getElem?_eq_getElem hi), rd_bytes (hok _ (List.getElem_mem hi))]
    · rw [List.getElem?_eq_none (by simp; omega), List.getElem?_eq_none (by omega)]; rfl
  have e0 : decE (logB g rs) = 0 := by
    unfold decE
    rw [m8, hlen, if_neg (by omega), if_neg (by rw [z16]; simp), if_neg (by omega), if_neg (by omega), if_neg (by omega), if_pos f1]
  refine ⟨e0, ?_, ?_⟩
  · unfold decG; rw [if_pos e0, n0]
  · unfold decL; rw [if_pos e0, m8, r1]
theorem prs_ok {b : List (BitVec 8)} (h : prs b = true) : (rdR b).ok = true ∧ (rdR b).bytes = b := by
  unfold prs at h
  simp only [Bool.and_eq_true, beq_iff_eq] at h
  exact h
theorem log_dec {b : List (BitVec 8)} (h : decE b = 0) : logE (decL b) = 0 ∧ logB (decG b) (decL b) = b := by
  obtain ⟨hz, hn, hlen, hf⟩ := decE_ok h
  have eg : decG b = num b 0 8 := by unfold decG; rw [if_pos h]
  have el : decL b = recsOf b (num b 8 8).toNat := by unfold decL; rw [if_pos h]
  have hr : ∀ i, i < (num b 8 8).toNat → (rdR (chunk b (i + 1))).ok = true ∧ (rdR (chunk b (i + 1))).bytes = chunk b (i + 1) := fun i hi => by
    unfold fine at hf
    exact prs_ok (List.all_eq_true.1 hf i (List.mem_range.2 hi))
  obtain ⟨n, hnn⟩ : ∃ n, (num b 8 8).toNat = n := ⟨_, rfl⟩
  rw [hnn] at hn hlen hr el
  rw [el, eg]
  have hlr := recsOf_len b n
  have hall : ∀ r ∈ recsOf b n, r.ok = true := by
    intro r hm
    unfold recsOf at hm
    obtain ⟨i, hi, rfl⟩ := List.mem_map.1 hm
    exact (hr i (List.mem_range.1 hi)).1
  constructor
  · unfold logE
    rw [hlr, if_neg (by omega), if_pos (List.all_eq_true.2 hall)]
  · unfold logB head
    rw [hlr]
    have e8 : BitVec.ofNat 64 n = num b 8 8 := by rw [← hnn]; simp
    rw [e8, num_le b 0 8 (by omega) (by decide), num_le b 8 8 (by omega) (by decide), show (List.replicate 1008 0#8) = cut b 16 1008 by
      have := allZ_iff.1 hz
      rw [cut_len (by omega)] at this
      exact this.symm]
    have hfl : ∀ k, k ≤ n → ((recsOf b k).map Rec.bytes).flatten = cut b 1024 (1024 * k) := by
      intro k
      induction k with
      | zero => intro _; unfold recsOf cut; simp
      | succ k ih =>
        intro hk
        rw [recsOf_more, List.map_append, List.flatten_append, ih (by omega), List.map_cons, List.map_nil, List.flatten_cons, List.flatten_nil, List.append_nil, (hr k (by omega)).2]
        unfold chunk cut
        rw [show 1024 * (k + 1) = 1024 * k + 1024 by omega, List.take_add, List.drop_drop]
        congr 3; omega
    rw [hfl n (Nat.le_refl _)]
    unfold cut
    rw [List.append_assoc, List.append_assoc, List.drop_zero]
    have t1 : b.take 8 ++ ((b.drop 8).take 8 ++ ((b.drop 16).take 1008 ++ (b.drop 1024).take (1024 * n))) = b := by
      have a1 := List.take_append_drop 8 b
      have a2 := List.take_append_drop 8 (b.drop 8)
      have a3 := List.take_append_drop 1008 (b.drop 16)
      rw [List.drop_drop] at a2 a3
      rw [List.take_of_length_le (by rw [List.length_drop]; omega : (b.drop 1024).length ≤ 1024 * n), a3, a2, a1]
    exact t1
end Dsc
end Go.Proofs.YtjcgdenkmmgmfaaGreatDoor
