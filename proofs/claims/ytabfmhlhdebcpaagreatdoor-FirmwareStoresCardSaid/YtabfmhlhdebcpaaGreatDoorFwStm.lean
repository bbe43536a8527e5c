/- Firmware: the plain law of Stores: cuts, what remains, what the pieces hold. -/
import Derived.Test.YtabfmhlhdebcpaaGreatDoorFwM5
namespace Go.Proofs.YtabfmhlhdebcpaaGreatDoor
open Go.RowKit Fw
set_option linter.unusedVariables false
set_option linter.unusedSimpArgs false
namespace Fw
/-- Cuts from a to b, each of whole dwords. -/
def Ch : Nat → List (Nat × Nat) → Nat → Prop
  | a, [], b => a = b
  | a, p :: r, b => p.1 = a ∧ a < p.2 ∧ a % 4 = 0 ∧ p.2 % 4 = 0 ∧ Ch p.2 r b
theorem Ch.snoc {e : Nat} : ∀ {R : List (Nat × Nat)} {a b : Nat}, Ch a R b → b < e → b % 4 = 0 → e % 4 = 0 → Ch a (R ++ [(b, e)]) e
  | [], a, b, h, h1, h2, h3 => by cases h; exact ⟨rfl, h1, h2, h3, rfl⟩
  | p :: R, a, b, h, h1, h2, h3 => ⟨h.1, h.2.1, h.2.2.1, h.2.2.2.1, Ch.snoc h.2.2.2.2 h1 h2 h3⟩
theorem Ch.le : ∀ {R : List (Nat × Nat)} {a b : Nat}, Ch a R b → a + 4 * R.length ≤ b
  | [], a, b, h => by cases h; simp
  | p :: R, a, b, h => by
    have h1 := Ch.le h.2.2.2.2
    obtain ⟨-, g1, g2, g3, -⟩ := h
    rw [List.length_cons]
    omega
def total (R : List (Nat × Nat)) : Nat := (R.map (fun p => p.2 - p.1)).sum
theorem total_app (R S : List (Nat × Nat)) : total (R ++ S) = total R + total S := by unfold total; rw [List.map_append, List.sum_append]
theorem total_one (p : Nat × Nat) : total [p] = p.2 - p.1 := by simp [total]
theorem total_cons (p : Nat × Nat) (R : List (Nat × Nat)) : total (p :: R) = (p.2 - p.1) + total R := by simp [total]
theorem Ch.facts : ∀ {R : List (Nat × Nat)} {a b : Nat}, Ch a R b → (∀ p ∈ R, a ≤ p.1 ∧ p.1 % 4 = 0 ∧ p.2 % 4 = 0 ∧ p.1 < p.2 ∧ p.2 ≤ b) ∧ R.Pairwise (fun p q => p.2 ≤ q.1) ∧ a + total R = b
  | [], a, b, h => by cases h; exact ⟨fun p hp => (by cases hp), List.Pairwise.nil, by simp [total]⟩
  | p :: R, a, b, h => by
    obtain ⟨h1, h2, h3⟩ := Ch.facts h.2.2.2.2
    have h4 := Ch.le h.2.2.2.2
    obtain ⟨g0, g1, g2, g3, -⟩ := h
    refine ⟨fun q hq => ?_, List.Pairwise.cons (fun q hq => (h1 q hq).1) h2, by rw [total_cons]; omega⟩
    rcases List.mem_cons.1 hq with rfl | hq
    · omega
    · have := h1 q hq; omega
theorem cat_app (ps qs : List Pc) : cat (ps ++ qs) = cat ps ++ cat qs := by unfold cat; rw [List.flatMap_append]
theorem cat_cons (p : Pc) (qs : List Pc) : cat (p :: qs) = p.d ++ cat qs := by unfold cat; rw [List.flatMap_cons]
theorem cat_ins (a : Nat) (d : Bs) (ps : List Pc) : (cat (ins a d ps)).length = (cat ps).length + d.length := by
  unfold ins
  have h : cat ps = cat (ps.take (pos a ps)) ++ cat (ps.drop (pos a ps)) := by rw [← cat_app, List.take_append_drop]
  rw [cat_app, cat_cons, h, List.length_append, List.length_append, List.length_append]
  show _ + (d.length + _) = _
  omega
/-- What holds while pieces are downloaded: R remains, ps is there. -/
structure Inv (b : Bs) (R : List (Nat × Nat)) (ps : List Pc) : Prop where
  each : ∀ p ∈ R, p.1 % 4 = 0 ∧ p.2 % 4 = 0 ∧ p.1 < p.2 ∧ p.2 ≤ b.length
  apart : R.Pairwise (fun p q => p.2 ≤ q.1)
  pcs : ∀ p ∈ ps, p.at_ + p.d.length ≤ b.length ∧ p.d = (b.drop p.at_).take p.d.length
  off : ∀ r ∈ R, ∀ p ∈ ps, p.at_ + p.d.length ≤ r.1 ∨ r.2 ≤ p.at_
  tot : (cat ps).length + total R = b.length
theorem Inv.start {b : Bs} {R : List (Nat × Nat)} (h : Ch 0 R b.length) : Inv b R [] := by
  obtain ⟨h1, h2, h3⟩ := h.facts
  exact ⟨fun p hp => (h1 p hp).2, h2, fun p hp => (by cases hp), fun r hr p hp => (by cases hp), by show 0 + total R = _; omega⟩
theorem splitAt {R : List (Nat × Nat)} {k : Nat} {r : Nat × Nat} (hk : R[k]? = some r) : R = R.take k ++ r :: R.drop (k + 1) := by
  have hl := (List.getElem?_eq_some_iff.1 hk)
  obtain ⟨hlt, he⟩ := hl
  rw [← he, ← List.drop_eq_getElem_cons hlt, List.take_append_drop]
theorem Inv.step {b : Bs} {R : List (Nat × Nat)} {ps : List Pc} (h : Inv b R ps) {k s e : Nat} (hk : R[k]? = some (s, e)) :
    Inv b (R.take k ++ R.drop (k + 1)) (ins s ((b.drop s).take (e - s)) ps) ∧ ps.any (ovl s ((b.drop s).take (e - s)).length) = false ∧ ((b.drop s).take (e - s)).length = e - s ∧ s % 4 = 0 ∧ e % 4 = 0 ∧ s < e ∧ e ≤ b.length := by
  have hm := List.mem_of_getElem? hk
  obtain ⟨m1, m2, m3, m4⟩ := h.each _ hm
  have m1 : s % 4 = 0 := m1
  have m2 : e % 4 = 0 := m2
  have m3 : s < e := m3
  have m4 : e ≤ b.length := m4
  have hl : ((b.drop s).take (e - s)).length = e - s := by rw [List.length_take, List.length_drop]; omega
  have hs := splitAt hk
  have hap := h.apart
  rw [hs, List.pairwise_append] at hap
  obtain ⟨a1, a2, a3⟩ := hap
  rw [List.pairwise_cons] at a2
  obtain ⟨a2, a4⟩ := a2
  have hmem : ∀ r ∈ R.take k ++ R.drop (k + 1), r ∈ R := fun r hr => by
    rcases List.mem_append.1 hr with h | h
    · exact List.mem_of_mem_take h
    · exact List.mem_of_mem_drop h
  refine ⟨⟨fun r hr => h.each r (hmem r hr), ?_, ?_, ?_, ?_⟩, ?_, hl, m1, m2, m3, m4⟩
  · rw [List.pairwise_append]
    exact ⟨a1, a4, fun x hx y hy => a3 x hx y (List.mem_cons_of_mem _ hy)⟩
  · intro p hp
    rcases ins_mem hp with rfl | hp
    · show s + ((b.drop s).take (e - s)).length ≤ b.length ∧ (b.drop s).take (e - s) = (b.drop s).take ((b.drop s).take (e - s)).length
      rw [hl]
      exact ⟨by omega, rfl⟩
    · exact h.pcs p hp
  · intro r hr p hp
    rcases ins_mem hp with rfl | hp
    · show s + ((b.drop s).take (e - s)).length ≤ r.1 ∨ r.2 ≤ s
      rw [hl]
      rcases List.mem_append.1 hr with h1 | h1
      · exact .inr (a3 r h1 (s, e) (List.mem_cons_self ..))
      · have := a2 r h1
        have : e ≤ r.1 := this
        left; omega
    · exact h.off r (hmem r hr) p hp
  · rw [cat_ins, hl]
    have ht := h.tot
    rw [hs, total_app, total_cons] at ht
    rw [total_app]
    have ht : (cat ps).length + (total (R.take k) + (e - s + total (R.drop (k + 1)))) = b.length := ht
    omega
  · rw [hl, List.any_eq_false]
    intro p hp
    have h1 := h.off _ hm p hp
    have h1 : p.at_ + p.d.length ≤ s ∨ e ≤ p.at_ := h1
    unfold ovl
    simp only [Bool.and_eq_true, decide_eq_true_eq]
    omega
theorem full {hi : Nat} : ∀ {ps : List Pc} {lo : Nat}, Sep lo ps → (∀ p ∈ ps, p.at_ + p.d.length ≤ hi) → lo + (cat ps).length = hi → contig lo ps = true
  | [], lo, _, _, _ => rfl
  | p :: ps, lo, hs, hm, ht => by
    obtain ⟨h1, h2, h3⟩ := hs
    have hp := hm p (List.mem_cons_self ..)
    have hsum := (Sep.sum h3 hp (fun q hq => hm q (List.mem_cons_of_mem _ hq))).1
    rw [cat_cons, List.length_append] at ht
    have he : p.at_ = lo := by omega
    unfold contig
    rw [decide_eq_true he, Bool.true_and]
    exact full (by rw [← he]; exact h3) (fun q hq => hm q (List.mem_cons_of_mem _ hq)) (by omega)
theorem full_cat {b : Bs} : ∀ {ps : List Pc} {lo : Nat}, contig lo ps = true → (∀ p ∈ ps, p.d = (b.drop p.at_).take p.d.length) → cat ps = (b.drop lo).take (cat ps).length
  | [], lo, _, _ => by simp [cat]
  | p :: ps, lo, hc, hm => by
    unfold contig at hc
    rw [Bool.and_eq_true, decide_eq_true_eq] at hc
    obtain ⟨he, hc⟩ := hc
    have ih := full_cat hc (fun q hq => hm q (List.mem_cons_of_mem _ hq))
    have hp := hm p (List.mem_cons_self ..)
    rw [he] at hp
    rw [cat_cons, List.length_append, List.take_add, ← hp, List.drop_drop, ← ih]
theorem Inv.done {b : Bs} {ps : List Pc} (h : Inv b [] ps) (hs : Sep 0 ps) : contig 0 ps = true ∧ cat ps = b := by
  have ht : (cat ps).length = b.length := by have h9 := h.tot; have h0 : total [] = 0 := rfl; omega
  have hc := full (hi := b.length) hs (fun p hp => (h.pcs p hp).1) (by omega)
  have h2 := full_cat hc (fun p hp => (h.pcs p hp).2)
  rw [ht, List.drop_zero, List.take_length] at h2
  exact ⟨hc, h2⟩
theorem rstrip_spaces (r : Bs) (n : Nat) (h : r.getLast? ≠ some 32#8) : Wire.rstrip (r ++ List.replicate n 32#8) = r := by
  unfold Wire.rstrip
  rw [List.reverse_append, List.reverse_replicate]
  have h1 : ∀ (n : Nat) (l : Bs), (List.replicate n 32#8 ++ l).dropWhile (· == 32#8) = l.dropWhile (· == 32#8) := by
    intro n l
    induction n with
    | zero => simp
    | succ n ih => rw [List.replicate_succ, List.cons_append, List.dropWhile_cons, if_pos (by rfl)]; exact ih
  rw [h1]
  have h2 := rstrip_id h
  unfold Wire.rstrip at h2
  exact h2
theorem img_is (r b : Bs) (hr : revOk r = true) (hb : b.length ≤ 1000) : imgIs (imgB r b) = true ∧ Wire.rstrip ((imgB r b).take 8) = r := by
  obtain ⟨r1, r2, r3, r4, r5⟩ := revOk_is hr
  have hlen := imgB_len r b r2
  have h8 : (r ++ List.replicate (8 - r.length) 32#8).length = 8 := by rw [List.length_append, List.length_replicate]; omega
  have hle : (Wire.le (BitVec.ofNat 64 (12 + b.length)) 4).length = 4 := by rw [Wire.le_len]
  have t8 : (imgB r b).take 8 = r ++ List.replicate (8 - r.length) 32#8 := by
    unfold imgB
    rw [List.append_assoc, List.append_assoc, ← List.append_assoc, List.take_append_of_le_length (by rw [h8]; exact Nat.le_refl _), List.take_of_length_le (by rw [h8]; exact Nat.le_refl _)]
  have t12 : ((imgB r b).take 12).drop 8 = Wire.le (BitVec.ofNat 64 (12 + b.length)) 4 := by
    unfold imgB
    rw [List.take_append_of_le_length (by rw [List.length_append, h8, hle]; exact Nat.le_refl _), List.take_of_length_le (by rw [List.length_append, h8, hle]; exact Nat.le_refl _), List.drop_append_of_le_length (by rw [h8]; exact Nat.le_refl _), List.drop_of_length_le (by rw [h8]; exact Nat.le_refl _), List.nil_append]
  have hs := rstrip_spaces r (8 - r.length) r5
  have hz : (BitVec.ofNat 64 (12 + b.length)) >>> (8 * 4) = 0#64 := by
    apply BitVec.eq_of_toNat_eq
    rw [BitVec.toNat_ushiftRight, BitVec.toNat_ofNat, Nat.mod_eq_of_lt (by omega), Nat.shiftRight_eq_div_pow]
    show (12 + b.length) / 2 ^ 32 = 0
    exact Nat.div_eq_of_lt (by omega)
  have hrd : uv (rd4 (imgB r b)) = ((imgB r b).length : Int) := by
    unfold rd4
    rw [t12, Wire.get_le _ 4 (by omega) (fun _ => hz), hlen]
    unfold uv
    rw [BitVec.toNat_ofNat, Nat.mod_eq_of_lt (by omega)]
  refine ⟨?_, by rw [t8]; exact hs⟩
  unfold imgIs
  rw [t8, hs, hr, decide_eq_true hrd, decide_eq_true (show 12 ≤ (imgB r b).length by omega)]
  have hp : Wire.plain (r ++ List.replicate (8 - r.length) 32#8) = true := by
    unfold Wire.plain at r3 ⊢
    rw [List.all_append, r3, Bool.true_and, List.all_eq_true]
    intro x hx
    rw [List.mem_replicate] at hx
    rw [hx.2]; rfl
  rw [hp]; rfl
/-- When nothing remains, the buffer is the image and its revision the name. -/
theorem Inv.nm {r b : Bs} {ps : List Pc} (h : Inv (imgB r b) [] ps) (hs : Sep 0 ps) (hr : revOk r = true) (hb : b.length ≤ 1000) : nm ps = r := by
  obtain ⟨h1, h2⟩ := h.done hs
  obtain ⟨i1, i2⟩ := img_is r b hr hb
  unfold Fw.nm
  rw [h1, h2, i1, i2]; rfl
/-- The configuration of Stores. -/
def cS : Cfg := ⟨3, false, [49#8, 46#8, 48#8], 256⟩
theorem cS_ok : cfgOk cS = true := by decide +kernel
/-- Slots with the pieces ps. -/
def stP (ps : List Pc) : St := { Fw.new cS with ps := ps }
theorem stP_nil : stP [] = Fw.new cS := rfl
theorem stP_dl {b : Bs} {R : List (Nat × Nat)} {ps : List Pc} (h : Inv b R ps) (hb : b.length ≤ 256) {k s e : Nat} (hk : R[k]? = some (s, e)) :
    dlE (stP ps) s ((b.drop s).take (e - s)) = 0 ∧ dlS (stP ps) s ((b.drop s).take (e - s)) = stP (ins s ((b.drop s).take (e - s)) ps) := by
  obtain ⟨-, ha, hl, m1, m2, m3, m4⟩ := h.step hk
  have hbad : dlBad (stP ps).c s ((b.drop s).take (e - s)).length = false := by
    rw [hl]
    unfold dlBad
    have hmx : (stP ps).c.mx = 256 := rfl
    rw [hmx, decide_eq_true m1, decide_eq_true (show (e - s) % 4 = 0 by omega), decide_eq_false (show ¬ e - s = 0 by omega), decide_eq_false (show ¬ (256 : Int) < ((s + (e - s) : Nat) : Int) by omega)]
    rfl
  have hE : dlE (stP ps) s ((b.drop s).take (e - s)) = 0 := by
    unfold dlE
    rw [hbad, if_neg (by decide), show (stP ps).ps = ps from rfl, ha]; rfl
  refine ⟨hE, ?_⟩
  unfold dlS
  rw [if_pos hE]
  rfl
theorem stP_cm {r : Bs} {ps : List Pc} {k : Int} (hn : nm ps = r) (hr : r ≠ []) (hk : k = 2 ∨ k = 3) :
    cmE (stP ps) k 1 = 0 ∧ cmS (stP ps) k 1 = { stP [] with s := { act := 1, nxt := k, revs := (Fw.new cS).s.revs.set (k - 1).toNat r } } := by
  have hp : pick (stP ps) k = k := by unfold pick; rw [if_neg (by omega)]
  have hw : wr (stP ps) k = true := by rcases hk with rfl | rfl <;> rfl
  have hnm : nm (stP ps).ps = r := hn
  have hE : stE (stP ps) k = 0 := by unfold stE; rw [hp, hw, if_pos rfl, hnm, if_neg hr]
  refine ⟨?_, ?_⟩
  · unfold cmE
    rw [if_neg (by omega), if_neg (by omega)]; exact hE
  · unfold cmS
    rw [if_neg (by omega), if_neg (by omega), if_neg (by omega), if_pos ⟨rfl, hE⟩]
    unfold stS
    rw [hp, hw, if_pos rfl, hnm, if_neg hr]
    rfl
end Fw
end Go.Proofs.YtabfmhlhdebcpaaGreatDoor
