/- The law LogpageErrors: the walk. Printed by genlaw23u.py. -/
import Derived.Test.YthnnopjakpjoeaaDoorLaw23A
import Derived.Test.YthnnopjakpjoeaaDoorLogG
import Derived.Test.YthnnopjakpjoeaaDoorLogGE
import Derived.Test.YthnnopjakpjoeaaDoorLogT
import Derived.Deep.MidRow
namespace Go.Proofs.YthnnopjakpjoeaaDoor
open Go.RowKit Lg
set_option linter.unusedVariables false
set_option linter.unusedSimpArgs false
theorem wd_lt23 {w : World} {b o : Nat} {v : Value} (h : w.cell? ⟨b, o, none⟩ = some v) : b < w.heap.size := block_lt_of_cell h
/-- The entries accepted so far, the oldest first. -/
structure AllAt (w : World) (p : Nat) (al : List (List (BitVec 8))) (av : Value) (vs : List Value) : Prop where
  own : w.ownsRow (p + 1) 22 1 av al.length vs
  el : ∀ (i : Nat) (l : List (BitVec 8)), al[i]? = some l → l.length = 64 ∧ ∃ u, vs[i]? = some u ∧ BytesV w u l ∧ Off (fun b => b = p) u
theorem AllAt.below {w w' : World} {p : Nat} {al : List (List (BitVec 8))} {av : Value} {vs : List Value} (h : AllAt w p al av vs) (hb : Below w.heap.size w w') : AllAt w' p al av vs :=
  ⟨own_below h.own hb, fun i l hl => by obtain ⟨h1, u, h2, h3, h4⟩ := h.el i l hl; exact ⟨h1, u, h2, h3.below hb, h4⟩⟩
theorem AllAt.chg {w w' : World} {p : Nat} {al : List (List (BitVec 8))} {av : Value} {vs : List Value} (h : AllAt w p al av vs) (hc : Chg (fun b => b = p) w w') : AllAt w' p al av vs :=
  ⟨own_chg h.own hc (fun g hg => by have := (h.own.lt g hg).1; omega), fun i l hl => by obtain ⟨h1, u, h2, h3, h4⟩ := h.el i l hl; exact ⟨h1, u, h2, h3.chg hc h4, h4⟩⟩
theorem AllAt.len {w : World} {p : Nat} {al : List (List (BitVec 8))} {av : Value} {vs : List Value} (h : AllAt w p al av vs) : ∀ (i : Nat) (l : List (BitVec 8)), al[i]? = some l → l.length = 64 := fun i l hl => (h.el i l hl).1
theorem AllAt.parts {w : World} {p : Nat} {al : List (List (BitVec 8))} {av : Value} {vs : List Value} (h : AllAt w p al av vs) : PartsV w av al := by
  obtain ⟨h1, h2⟩ := h.own
  rw [Nat.mul_one] at h1
  rcases h2 with ⟨e1, e2⟩ | ⟨g, cap, cur, hv, hg, hh, r1, r2, r3, r4⟩
  · have hl : al = [] := List.length_eq_zero_iff.1 e2
    subst hl; subst e1
    exact ⟨none, 0, vs, rfl, fun _ => rfl, by simp, by simp, .inl (List.length_eq_zero_iff.1 h1), h1, fun i l hl => by simp at hl⟩
  · subst hv
    refine ⟨_, cap, vs, rfl, by simp, r1, r2, Row.of_own ⟨by rw [Nat.mul_one]; exact h1, .inr ⟨g, cap, cur, rfl, hg, hh, r1, r2, r3, r4⟩⟩, h1, fun i l hl => ?_⟩
    obtain ⟨-, u, h3, h4, -⟩ := h.el i l hl
    exact ⟨u, h3, h4⟩
/-- No one of these values lies in the block of v. -/
def Apart (v : Value) (us : List Value) : Prop := ∀ (i : Nat) (u : Value), us[i]? = some u → Off (fun b => v.ownBlock = some b) u
/-- A world in which one row has grown is one in which that block alone has changed. -/
theorem chg_of_grown {w w' : World} {row : Option Nat} (hg : w.grownBy w' row) : Chg (fun b => row = some b) w w' :=
  ⟨hg.os, hg.tape, hg.output, hg.size, fun k hk hn => hg.block k hk (fun e => hn e.symm)⟩
/-- 'append(all, w)' at a slice of slices. -/
theorem app_part {ops : Array Oper} {rest : List Oper} {o : Oper} {a : Act} {Q : Exit → Act → World → Prop} {W : World} (hgd : o.guard = none) (s x : Operand) (ho : o.op = .call { callee := .builtin .append, args := #[s, x], argTypes := #[55, 55] })
    (u : Value) (base n : Nat) (vs : List Value) (hs : a.eval s = u) (hown : W.ownsRow base 22 1 u n vs) (hbase : base ≤ W.heap.size) (z : Value) (hz : z.oneCell' = true) (ty : TypeId) (hx : a.eval x = .slice (some ⟨W.heap.size, 0, none⟩) 1 1) (hl : n ≤ 100000)
    (h : ∀ v' w', w'.ownsRow base 22 1 v' (n + 1) (vs ++ [z]) → (W.alloc (.cells #[z] ty)).grownBy w' u.ownBlock → (v'.ownBlock = u.ownBlock ∨ v'.ownBlock = some (W.alloc (.cells #[z] ty)).heap.size) → wpList Tryd.prog ops Q rest (a.put o.dst v') w') : wpList Tryd.prog ops Q (o :: rest) a (W.alloc (.cells #[z] ty)) := by
  have hb := gr_alloc W (.cells #[z] ty)
  refine app_law_at partsOk hgd s x ho base u n vs hs (own_below hown hb) (some ⟨W.heap.size, 0, none⟩) 1 1 [z] hx some_none (Nat.le_refl _) (Row.lit W #[z] ty (0, 0)) rfl (by intro u hu; simp at hu; subst hu; exact hz) (by omega) (by omega) (Nat.le_trans hbase hb.size) ?_
  intro v' w' h1 h2 h3
  exact h v' w' h1 h2 h3
namespace Lg
theorem rev_more (al : List (List (BitVec 8))) (B : List (BitVec 8)) (q : Nat) : (al ++ [B]).reverse.take (q + 1) = B :: (al.reverse.take (q + 1)).take q := by
  rw [List.reverse_append, List.reverse_cons, List.reverse_nil, List.nil_append, List.singleton_append, List.take_succ_cons, List.take_take, Nat.min_eq_left (by omega)]
theorem rev_len (al : List (List (BitVec 8))) (q : Nat) : (al.reverse.take (q + 1)).length ≤ al.length := by rw [List.length_take, List.length_reverse]; omega
theorem er_set (x : Er) (c : BitVec 64) : (Er.cells x).toArray.setIfInBounds 0 (.int .u64 (uv c)) = (Er.cells (numb x c)).toArray := rfl
theorem erE_numb (x : Er) (c : BitVec 64) : erE (numb x c) = erE x ∧ erOk (numb x c) = erOk x := ⟨rfl, rfl⟩
end Lg
theorem AllAt.grow {w w2 : World} {p : Nat} {al : List (List (BitVec 8))} {av v' : Value} {vs : List Value} {z : Value} {B : List (BitVec 8)} (h : AllAt w p al av vs) (ha : Apart av vs) (hg : w.grownBy w2 av.ownBlock) (ho : w2.ownsRow (p + 1) 22 1 v' (al.length + 1) (vs ++ [z])) (hB : B.length = 64) (hz : BytesV w z B) (hzp : Off (fun b => b = p) z) (hza : Off (fun b => av.ownBlock = some b) z) : AllAt w2 p (al ++ [B]) v' (vs ++ [z]) := by
  have hc := chg_of_grown hg
  have hl : vs.length = al.length := by have := h.own.1; omega
  refine ⟨by rw [List.length_append]; exact ho, fun i l hi => ?_⟩
  by_cases hlt : i < al.length
  · rw [List.getElem?_append_left hlt] at hi
    obtain ⟨h1, u, h2, h3, h4⟩ := h.el i l hi
    exact ⟨h1, u, by rw [List.getElem?_append_left (by omega)]; exact h2, h3.chg hc (ha i u h2), h4⟩
  · rw [List.getElem?_append_right (by omega)] at hi
    have hi0 : i - al.length = 0 := by
      rcases Nat.eq_zero_or_pos (i - al.length) with h0 | h0
      · exact h0
      · rw [List.getElem?_eq_none (by simp; omega)] at hi; cases hi
    rw [hi0] at hi
    simp at hi
    subst hi
    refine ⟨hB, z, ?_, hz.chg hc hza, hzp⟩
    rw [List.getElem?_append_right (by omega), hl, hi0]; rfl
theorem ErrAt.grown {w w2 : World} {p : Nat} {ls : List (List (BitVec 8))} {c : BitVec 64} {s : Nat} {lv : Value} {vs : List Value} {row : Option Nat} (h : ErrAt w p ls c s lv vs) (hg : w.grownBy w2 row) (hp : row ≠ some p) (hlv : ∀ g, lv.ownBlock = some g → row ≠ some g) (ha : ∀ (i : Nat) (u : Value), vs[i]? = some u → Off (fun b => row = some b) u) : ErrAt w2 p ls c s lv vs := by
  have hc := chg_of_grown hg
  exact ⟨hc.blk h.blk hp, own_chg h.own hc (fun g hg => hlv g hg), fun i l hl => by obtain ⟨h1, u, h2, h3, h4⟩ := h.el i l hl; exact ⟨h1, u, h2, h3.chg hc (ha i u h2), h4⟩⟩
/-- Bytes of a world lie in blocks that it has. -/
theorem byt_old {w : World} {u : Value} {l : List (BitVec 8)} (h : BytesV w u l) (hl : 0 < l.length) (q : Nat) (hq : w.heap.size ≤ q) : Off (fun b => some q = some b) u := by
  have := off_new h hl hq
  intro g o n c e hg
  exact this g o n c e (by injection hg with hg; exact hg.symm)
theorem ErrAt.old {w : World} {p : Nat} {ls : List (List (BitVec 8))} {c : BitVec 64} {s : Nat} {lv : Value} {vs : List Value} (h : ErrAt w p ls c s lv vs) (q : Nat) (hq : w.heap.size ≤ q) : ∀ (i : Nat) (u : Value), vs[i]? = some u → Off (fun b => some q = some b) u := by
  intro i u hu
  have hi := (List.getElem?_eq_some_iff.1 hu).1
  have h1 := h.own.1
  obtain ⟨h64, z, hz, hb, -⟩ := h.el i ls[i] (List.getElem?_eq_getElem (by omega))
  rw [hu] at hz
  cases hz
  exact byt_old hb (by omega) q hq
theorem AllAt.old {w : World} {p : Nat} {al : List (List (BitVec 8))} {av : Value} {vs : List Value} (h : AllAt w p al av vs) (q : Nat) (hq : w.heap.size ≤ q) : ∀ (i : Nat) (u : Value), vs[i]? = some u → Off (fun b => some q = some b) u := by
  intro i u hu
  have hi := (List.getElem?_eq_some_iff.1 hu).1
  have h1 := h.own.1
  obtain ⟨h64, z, hz, hb, -⟩ := h.el i al[i] (List.getElem?_eq_getElem (by omega))
  rw [hu] at hz
  cases hz
  exact byt_old hb (by omega) q hq
theorem off_less {base : Nat} {r : Option Nat} {u : Value} (h : Off (fun b => b < base) u) (hr : ∀ g, r = some g → g < base) : Off (fun b => r = some b) u := fun g o n c e hg => h g o n c e (hr g hg)
theorem off_less1 {base p : Nat} {u : Value} (h : Off (fun b => b < base) u) (hr : p < base) : Off (fun b => b = p) u := fun g o n c e hg => h g o n c e (by subst hg; exact hr)
theorem Apart.cons {v u0 : Value} {vs : List Value} {m : Nat} (h0 : Off (fun b => v.ownBlock = some b) u0) (h : Apart v vs) : Apart v (u0 :: vs.take m) := by
  intro i u hu
  cases i with
  | zero => simp at hu; subst hu; exact h0
  | succ i =>
    rw [List.getElem?_cons_succ] at hu
    have hlt : i < m := by have := (List.getElem?_eq_some_iff.1 hu).1; rw [List.length_take] at this; omega
    rw [List.getElem?_take_of_lt hlt] at hu
    exact h i u hu
theorem Apart.snoc {v u0 : Value} {vs : List Value} (h0 : Off (fun b => v.ownBlock = some b) u0) (h : Apart v vs) : Apart v (vs ++ [u0]) := by
  intro i u hu
  by_cases hi : i < vs.length
  · rw [List.getElem?_append_left hi] at hu; exact h i u hu
  · rw [List.getElem?_append_right (by omega)] at hu
    have h1 := (List.getElem?_eq_some_iff.1 hu).1
    have : i - vs.length = 0 := by simp at h1; omega
    rw [this] at hu
    simp at hu; subst hu; exact h0
theorem Apart.grow {w w2 : World} {av v' : Value} {q : Nat} {us : List Value} (ha : Apart av us) (hv : v'.ownBlock = av.ownBlock ∨ v'.ownBlock = some q) (hold : ∀ (i : Nat) (u : Value), us[i]? = some u → Off (fun b => some q = some b) u) : Apart v' us := by
  intro i u hu
  rcases hv with hv | hv
  · rw [hv]; exact ha i u hu
  · rw [hv]; exact hold i u hu
set_option maxHeartbeats 12800000 in
set_option maxRecDepth 20000 in
theorem lawErrors (s : Int) (v : Value) (x : List Er) (w : World) (hs : -9223372036854775808 ≤ s ∧ s ≤ 9223372036854775807) (hv : SliceV w Er.cells v x) (ht : Lib.TabIs Tryd.prog w "strings.asciiSpace" .u8 Lib.asciiSpaceTab) :
    Calls Tryd.prog 5 #[.int .i64 s, v] w fun e w' => e = .returned (.bool true) ∧ Below w.heap.size w w' := by
  have V := Lib.hid hv
  have TAB := Lib.hid ht
  obtain ⟨av0, cv0, rfl, h0, h1, h2, h3⟩ := hv
  have hl9 : (x.length : Int) ≤ 9223372036854775807 := by omega
  have ROW := Lib.hid h3
  clear h0 h1 h2 h3 ht
  by_cases hr : s < 1 ∨ 64 < s
  · have HR := Lib.hid hr
    have e22 : ((2 : Int) == 2) = true := rfl
    by_cases hs1 : s < 1
    · have d1 : decide (s < 1) = true := decide_eq_true hs1
      clear hr hs1 hs
      go_enter Tryd.func5, Tryd.ntmps5
      go_wp2_with (first
        | (go_at_call 25; go_loud (refine (NewErr_no s w HR.out).mono ?_; rintro r w1 ⟨rfl, rfl⟩))
        | (go_at_call 13; go_loud (refine (known_any _ TAB.out).mono ?_; rintro r w1 ⟨rfl, hw⟩; have D1 := Lib.hid hw; clear hw)))
      go_ret
      exact ⟨rfl, D1.out⟩
    · have d1 : decide (s < 1) = false := decide_eq_false hs1
      have d2 : decide (64 < s) = true := decide_eq_true (by omega)
      clear hr hs1 hs
      go_enter Tryd.func5, Tryd.ntmps5
      go_wp2_with (first
        | (go_at_call 25; go_loud (refine (NewErr_no s w HR.out).mono ?_; rintro r w1 ⟨rfl, rfl⟩))
        | (go_at_call 13; go_loud (refine (known_any _ TAB.out).mono ?_; rintro r w1 ⟨rfl, hw⟩; have D1 := Lib.hid hw; clear hw)))
      go_ret
      exact ⟨rfl, D1.out⟩
  obtain ⟨q, rfl⟩ : ∃ q : Nat, s = ((q + 1 : Nat) : Int) := ⟨(s - 1).toNat, by omega⟩
  have HQ := Lib.hid (show q ≤ 63 by omega)
  have d1 : decide ((((q + 1 : Nat)) : Int) < 1) = false := decide_eq_false (by omega)
  have d2 : decide ((64 : Int) < ((q + 1 : Nat) : Int)) = false := decide_eq_false (by omega)
  have d1c : decide ((q : Int) + 1 < 1) = false := decide_eq_false (by omega)
  have d2c : decide ((64 : Int) < (q : Int) + 1) = false := decide_eq_false (by omega)
  clear hr hs
  by_cases c80 : 80 < x.length
  · have d3 : decide ((80 : Int) < x.length) = true := decide_eq_true (by omega)
    have d3b : decide (80 < x.length) = true := decide_eq_true c80
    clear c80
    go_enter Tryd.func5, Tryd.ntmps5
    go_wp2_with (first
      | (go_at_call 25; go_loud (refine (NewErr_ok (q + 1) w (by omega) (by have := HQ.out; omega)).mono ?_; rintro r w1 ⟨p, rfl, -, -, hw⟩; have D1 := Lib.hid hw; clear hw))
      | (go_at_call 13; go_loud (refine (known_any _ (tab_below TAB.out D1.out)).mono ?_; rintro r w2 ⟨rfl, hw⟩; have D2 := Lib.hid (gr_tr D1.out hw); clear hw)))
    go_ret
    exact ⟨rfl, D2.out⟩
  have d3 : decide ((80 : Int) < x.length) = false := decide_eq_false (by omega)
  have d3b : decide (80 < x.length) = false := decide_eq_false c80
  have H80 := Lib.hid (show x.length ≤ 80 by omega)
  clear c80
  go_enter Tryd.func5, Tryd.ntmps5
  go_upto_region 2 with (go_at_call 25; go_loud (refine (NewErr_ok (q + 1) w (by omega) (by have := HQ.out; omega)).mono ?_; rintro r w1 ⟨p, rfl, hp, hE, hw⟩; have PP := Lib.hid hp; have E1 := Lib.hid hE; have D1 := Lib.hid hw; clear hp hE hw))
  go_upto_region 8 with (fail)
  clear d1 d2 d1c d2c d3 d3b
  go_loopw [7, 8] (fun av i wr => ∃ (k : Nat) (al : List (List (BitVec 8))) (lv : Value) (vs vs2 : List Value), k ≤ x.length ∧ i = .int .i64 k ∧ al.length ≤ k ∧ ErrAt wr p (al.reverse.take (q + 1)) (BitVec.ofNat 64 al.length) (q + 1) lv vs ∧ AllAt wr p al av vs2 ∧ Apart av vs ∧ Apart av vs2 ∧ Below w.heap.size w wr) (fun _ i _ => x.length - (intOf i).toNat)
  case atStart => exact ⟨0, [], .slice none 0 0, [], [], by omega, rfl, Nat.le_refl _, E1.out, ⟨World.ownsRow_nil _ _ _ _, fun i l hl => by simp at hl⟩, fun i u hu => by simp at hu, fun i u hu => by simp at hu, D1.out⟩
  case round =>
    obtain ⟨k, al, lv, vs, vs2, hk, rfl, hak, hE, hA, hp1, hp2, hb⟩ := hrel
    have EL := Lib.hid hE; have EA := Lib.hid hA; have AP1 := Lib.hid hp1; have AP2 := Lib.hid hp2; have D2 := Lib.hid hb; have HAK := Lib.hid hak
    have HALL := Lib.hid (show al.length ≤ 80 by have := H80.out; omega)
    clear hE hA hp1 hp2 hb hak E1 D1
    obtain ⟨aa, ca, rfl⟩ : ∃ a c, u7 = .slice a al.length c := own_shape EA.out.own
    by_cases hlt : k < x.length
    · obtain ⟨ex, hex⟩ : ∃ e, x[k]? = some e := ⟨_, List.getElem?_eq_getElem hlt⟩
      have hget : ∀ (j : Nat) (z : Value), (Er.cells ex)[j]? = some z → (x.flatMap Er.cells)[k * 11 + j]? = some z := fun j z hj => by
        have hj11 : j < 11 := by
          rcases Nat.lt_or_ge j 11 with h | h
          · exact h
          · rw [List.getElem?_eq_none (show (Er.cells ex).length ≤ j from h)] at hj; cases hj
        rw [flat_get (show ∀ y, (Er.cells y).length = 11 from fun _ => rfl) x k j ex hex hj11]; exact hj
      obtain ⟨g, o, hgo, -⟩ := ROW.out.at (hget 0 _ rfl)
      subst hgo
      have RNG := Lib.hid (show ∀ W', Below w.heap.size w W' → W'.rangeAt g (o + k * 11) (Er.cells ex) from fun W' hW' j z hj => by
        obtain ⟨g', o', e1, hc⟩ := (ROW.out.below hW').at (hget j z hj)
        injection e1 with e1; injection e1 with e1 e2; subst e1; subst e2
        rw [Nat.add_assoc]; exact hc)
      clear hget hex
      have ERL := Lib.hid (show (Er.cells ex).length = 11 from rfl)
      obtain ⟨cl, hcl⟩ : ∃ c, Er.cells ex = c := ⟨_, rfl⟩
      have hc1 : ∀ c : BitVec 64, cl.toArray.setIfInBounds 0 (.int .u64 (uv c)) = (Er.cells (numb ex c)).toArray := fun c => by rw [← hcl]; exact er_set ex c
      have hcx0 : cl.toArray[0]? = some (.int .u64 (uv ex.count)) := by rw [← hcl]; rfl
      have hone : cl.toArray.all (·.oneCell') = true := by rw [← hcl]; simp [Er.cells, St.cells, Value.oneCell']
      obtain ⟨c1, hcc1⟩ : ∃ c, BitVec.ofNat 64 al.length + 1#64 = c := ⟨_, rfl⟩
      obtain ⟨cn, hcn⟩ : ∃ c, (Er.cells (numb ex c1)).toArray = c := ⟨_, rfl⟩
      have SET := Lib.hid ((hc1 c1).trans hcn)
      have CLS := Lib.hid (show cl.toArray.size = 11 by rw [← hcl]; rfl)
      have CX0 := Lib.hid hcx0; have ONE := Lib.hid hone
      have CN0 := Lib.hid (show cn[0]? = some (.int .u64 (uv c1)) by rw [← hcn]; rfl)
      have CNS := Lib.hid (show cn.size = 11 by rw [← hcn]; rfl)
      have HCC := Lib.hid hcc1
      have HCM := Lib.hid (show BitVec.ofNat 64 (al.length + 1) = c1 by rw [← hcc1]; apply BitVec.eq_of_toNat_eq; simp)
      have hk0 : (0 : Int) ≤ (k : Int) := by omega
      have hkx : (k : Int) < (x.length : Int) := by omega
      obtain ⟨okb, hokb⟩ : ∃ b, erOk ex = b := ⟨_, rfl⟩
      have HOK := Lib.hid hokb
      obtain ⟨ef, hef⟩ : ∃ e, erE (numb ex c1) = e := ⟨_, rfl⟩
      obtain ⟨NB, hNB⟩ : ∃ B, erR (numb ex c1) = B := ⟨_, rfl⟩
      have REN := Lib.hid (fun w => rEncEr_own (numb ex c1) ef NB w hef hNB)
      have HEF := Lib.hid (show (if okb then (0 : Int) else 2) = ef by rw [← hokb]; exact hef)
      have HNB := Lib.hid (show (if okb then erB (numb ex c1) else []) = NB by rw [← hokb]; exact hNB)
      have NB64 := Lib.hid (show okb = true → (erB (numb ex c1)).length = 64 from fun h => erB_len _ (of_decide_eq_true (show erOk ex = true by rw [hokb, h])))
      have ADN := Lib.hid (fun w (h : ErrAt w p (al.reverse.take (q + 1)) (BitVec.ofNat 64 al.length) (q + 1) lv vs) (hb : erOk ex = false) => Add_no p _ _ q lv vs ex w h (by have := rev_len al q; have := HALL.out; omega) HQ.out hb)
      have ADO := Lib.hid (fun w (h : ErrAt w p (al.reverse.take (q + 1)) (BitVec.ofNat 64 al.length) (q + 1) lv vs) (hb : erOk ex = true) => Add_ok2 p _ _ q lv vs ex (erB (numb ex c1)) w h (by have := rev_len al q; have := HALL.out; omega) HQ.out hb (by rw [hcc1]))
      rw [show (Er.cells ex).toArray = cl.toArray by rw [hcl]] at ADN ADO
      rw [hcn] at REN
      rw [hcl] at RNG ERL
      clear hcl hc1 hcx0 hone hcn hokb hef hNB
      rw [hcc1] at ADO
      clear hcc1
      go_upto_region 11 with (first
        | (refine wpList_load_mid rfl 57 (.tmp 60) rfl g (o + k * 11) rfl cl _ (RNG.out _ D2.out) Tryd.underlying57 rfl (by rw [ERL.out]; kernel_rfl) ?_)
        | (refine wpList_store_new rfl 57 (.tmp 9) (.tmp 61) rfl cl.toArray 57 _ rfl rfl (by rw [CLS.out]; kernel_rfl) (by rw [CLS.out]; rfl) ONE.out ?_; intro w3 hh hw; have Y3 := Lib.hid hh; have B3 := Lib.hid hw; clear hh hw))
      obtain ⟨r9, hr9⟩ : ∃ r, wr.heap.size = r := ⟨_, rfl⟩
      rw [hr9] at Y3 ⊢
      have R9 := Lib.hid hr9
      have y0 : w3.cell? ⟨r9, 0, none⟩ = some (.int .u64 (uv ex.count)) := (cell_of_row _ _ 0 _ _ _ Y3.out).trans CX0.out
      have yf := frozen_of_row _ _ 0 _ _ Y3.out
      clear hr9
      go_upto_region 12 with (fail)
      rw [HCC.out]
      obtain ⟨w4, hw4⟩ : ∃ W, W = w3.setCell ⟨r9, 0, none⟩ (.int .u64 (uv c1)) := ⟨_, rfl⟩
      have X4 := Lib.hid (show w4.heap[r9]? = some (.cells cn 57 (0, 0)) by rw [hw4, ← SET.out]; exact heap_setCell_same _ _ _ _ _ _ Y3.out)
      have B4 := Lib.hid (show Below wr.heap.size wr w4 by rw [hw4]; exact B3.out.setCell (p := ⟨r9, 0, none⟩) (Nat.le_of_eq R9.out) _)
      rw [← hw4]
      clear hw4 y0 yf Y3 B3 SET
      go_upto_region 13 with (first
        | (refine wpList_load_row rfl 57 (.tmp 9) rfl r9 rfl 57 cn (0, 0) _ X4.out Tryd.underlying57 rfl (by rw [CNS.out]; kernel_rfl) ?_)
        | (go_at_call 26; go_loud (refine (REN.out w4).mono ?_; rintro r w5 ⟨u5, rfl, hu, ho, hw⟩; have U5 := Lib.hid hu; have OF5 := Lib.hid ho; have B5 := Lib.hid (gr_tr B4.out hw); have S45 := Lib.hid (show w4.heap.size ≤ w5.heap.size from hw.size); have X5 := Lib.hid (blk_below X4.out hw); clear hu ho hw)))
      have S4 := Lib.hid (show wr.heap.size ≤ w4.heap.size from B4.out.size)
      have PLT := Lib.hid (show p < wr.heap.size from EL.out.lt)
      have E5 := Lib.hid (EL.out.below B5.out)
      have A5 := Lib.hid (EA.out.below B5.out)
      have D5 := Lib.hid (gr_tr D2.out B5.out)
      have AVB := Lib.hid (show ∀ g, (Value.slice aa al.length ca).ownBlock = some g → p + 1 ≤ g ∧ g < wr.heap.size from fun g hg => EA.out.own.lt g hg)
      clear B4 X4 REN CX0 ONE
      cases okb
      · have hef : ef = 2 := HEF.out.symm
        have hNB : NB = [] := HNB.out.symm
        subst hef hNB
        go_upto_region 14 with (first
          | (refine wpList_load_mid rfl 57 (.tmp 76) rfl g (o + k * 11) rfl cl _ (RNG.out _ D5.out) Tryd.underlying57 rfl (by rw [ERL.out]; kernel_rfl) ?_)
          | (go_at_call 27; go_loud (refine (ADN.out w5 E5.out HOK.out).mono ?_; rintro r w6 ⟨rfl, hw⟩; have B6 := Lib.hid hw; clear hw)))
        have ELOG := Lib.hid (E5.out.below B6.out)
        have EALL := Lib.hid (A5.out.below B6.out)
        have D6 := Lib.hid (gr_tr D5.out B6.out)
        obtain ⟨LS, hLS⟩ : ∃ L, al.reverse.take (q + 1) = L := ⟨_, rfl⟩
        obtain ⟨PB, hPB⟩ : ∃ B, pgB (q + 1) LS = B := ⟨_, rfl⟩
        have HPB := Lib.hid hPB
        have HPB2 := Lib.hid (show pgB (q + 1) (al.reverse.take (q + 1)) = PB by rw [hLS]; exact hPB)
        have RL := Lib.hid (show LS.length ≤ 100 by have := rev_len al q; rw [hLS] at this; have := HALL.out; omega)
        have HKK := Lib.hid (show al.length ≤ 100 by have := HALL.out; omega)
        rw [hLS] at ELOG
        have HLS := Lib.hid hLS
        clear hLS hPB ADN ADO
        go_upto_region 18 with (fail)
        go_wp2_with (first
          | (go_at_call 28; go_loud (refine (Count_ok p _ _ (q + 1) _ _ w6 ELOG.out).mono ?_; rintro r wz ⟨rfl, rfl⟩))
          | (go_at_call 29; go_loud (refine (Page_ok p LS _ (q + 1) _ _ PB w6 ELOG.out (by have := RL.out; omega) (by have := HQ.out; omega) HPB.out).mono ?_; rintro r wp ⟨up, rfl, hu, hw⟩; have UP := Lib.hid hu; have DP := Lib.hid hw; clear hu hw))
          | (go_at_call 30; go_loud (refine (rPage_at (q + 1) _ al PB wp (EALL.out.below DP.out).parts EALL.out.len (by have := HQ.out; omega) (by have := HKK.out; omega) HPB2.out).mono ?_; rintro r wq ⟨uq, rfl, hu, hw⟩; have UQ := Lib.hid hu; have UP2 := Lib.hid (UP.out.below hw); have DQ := Lib.hid (gr_tr DP.out hw); clear hu hw))
          | (go_at_call 17; go_loud (refine (same_at _ _ PB PB true _ UP2.out UQ.out (beq_self_eq_true PB)).mono ?_; rintro r wz ⟨rfl, rfl⟩)))
        go_roundw
        case rel => exact ⟨k + 1, al, lv, vs, vs2, by omega, by go_num, by have := HAK.out; omega, by rw [HLS.out]; exact ELOG.out.below DQ.out, EALL.out.below DQ.out, AP1.out, AP2.out, gr_tr D6.out DQ.out⟩
        case measure => simp [intOf]; omega
      · have hef : ef = 0 := HEF.out.symm
        have hNB := NB64.out rfl
        have hNB2 : erB (numb ex c1) = NB := HNB.out
        subst hef
        rw [hNB2] at hNB ADO
        have N64 := Lib.hid hNB
        clear hNB hNB2
        go_upto_region 14 with (first
          | (refine wpList_load_mid rfl 57 (.tmp 76) rfl g (o + k * 11) rfl cl _ (RNG.out _ D5.out) Tryd.underlying57 rfl (by rw [ERL.out]; kernel_rfl) ?_)
          | (go_at_call 27; go_loud (refine (ADO.out w5 E5.out HOK.out).mono ?_; rintro r w6 ⟨rfl, ⟨lv6, hl6, u0, ho0, m, hE6⟩, hc6⟩; have LV6 := Lib.hid hl6; have OU0 := Lib.hid ho0; have E6 := Lib.hid hE6; have C6 := Lib.hid hc6; clear hl6 ho0 hE6 hc6)))
        have A6 := Lib.hid (A5.out.chg C6.out)
        have D6 := Lib.hid (C6.out.fresh D5.out (fun k hk => by subst hk; exact PP.out))
        have S5 := Lib.hid S45.out
        have X6 := Lib.hid (C6.out.blk X5.out (by have h1 := PLT.out; have h2 := R9.out; omega))
        have OP5 := Lib.hid (off_less1 OF5.out (show p < w4.heap.size by have := PLT.out; have := S4.out; omega))
        have U6 := Lib.hid (U5.out.chg C6.out OP5.out)
        have x60 : w6.cell? ⟨r9, 0, none⟩ = some (.int .u64 (uv c1)) := (cell_of_row _ _ 0 _ _ _ X6.out).trans CN0.out
        have OA5 := Lib.hid (off_less (r := (Value.slice aa al.length ca).ownBlock) OF5.out (fun g hg => by have h1 := (AVB.out g hg).2; have h2 := S4.out; omega))
        have OA0 := Lib.hid (off_less (r := (Value.slice aa al.length ca).ownBlock) OU0.out (fun g hg => by have h1 := (AVB.out g hg).2; have h2 := S4.out; have h3 := S5.out; omega))
        obtain ⟨a5, n5, c5, rfl⟩ := bytes_shape U6.out
        go_upto_region 18 with (at_builtin; refine app_part rfl (.tmp 104) (.tmp 106) rfl _ (p + 1) al.length vs2 rfl A6.out.own (by have h1 := A6.out.own; have h2 := E6.out.lt; omega) (.slice a5 n5 c5) rfl _ rfl (by have := HALL.out; omega) ?_; intro v7 w7 ho7 hg7 hv7; have O7 := Lib.hid ho7; have G7 := Lib.hid hg7; have V7 := Lib.hid hv7; clear ho7 hg7 hv7)
        obtain ⟨W6, hW6⟩ : ∃ W, W = w6.alloc (.cells #[.slice a5 n5 c5] 22) := ⟨_, rfl⟩
        have GA := Lib.hid (show Below w6.heap.size w6 W6 by rw [hW6]; exact gr_alloc _ _)
        rw [← hW6] at G7 V7
        clear hW6
        have EALL := Lib.hid ((A6.out.below GA.out).grow AP2.out G7.out O7.out N64.out (U6.out.below GA.out) OP5.out OA5.out)
        have ELOG := Lib.hid ((E6.out.below GA.out).grown G7.out (fun h => by have := (AVB.out p h).1; omega) (fun g hg h => by have h1 := LV6.out g hg; have h2 := (AVB.out g h).2; have h3 := S4.out; have h4 := S5.out; omega) (Apart.cons (m := m) OA0.out AP1.out))
        have NP1 := Lib.hid (Apart.grow (w := w) (w2 := w) (Apart.cons (m := m) OA0.out AP1.out) V7.out ((E6.out.below GA.out).old W6.heap.size (Nat.le_refl _)))
        have NP2 := Lib.hid (Apart.grow (w := w) (w2 := w) (Apart.snoc OA5.out AP2.out) V7.out (fun i u hu => by
          by_cases hi : i < vs2.length
          · rw [List.getElem?_append_left hi] at hu; exact (A6.out.below GA.out).old W6.heap.size (Nat.le_refl _) i u hu
          · rw [List.getElem?_append_right (by omega)] at hu
            have h1 := (List.getElem?_eq_some_iff.1 hu).1
            have h0 : i - vs2.length = 0 := by simp at h1; omega
            rw [h0] at hu
            simp at hu; subst hu
            exact byt_old (U6.out.below GA.out) (by rw [N64.out]; decide) _ (Nat.le_refl _)))
        have D7 := Lib.hid ((gr_tr D6.out GA.out).grown G7.out (gr_tr D6.out GA.out).size (fun g hg => by have h1 := (AVB.out g hg).1; have h2 := PP.out; omega))
        obtain ⟨LS, hLS⟩ : ∃ L, NB :: (al.reverse.take (q + 1)).take q = L := ⟨_, rfl⟩
        have hLS2 : (al ++ [NB]).reverse.take (q + 1) = LS := (rev_more al NB q).trans hLS
        obtain ⟨AL, hAL⟩ : ∃ L, al ++ [NB] = L := ⟨_, rfl⟩
        have hALn : AL.length = al.length + 1 := by rw [← hAL]; simp
        obtain ⟨PB, hPB⟩ : ∃ B, pgB (q + 1) LS = B := ⟨_, rfl⟩
        have HPB := Lib.hid hPB
        have HPB2 := Lib.hid (show pgB (q + 1) (AL.reverse.take (q + 1)) = PB by rw [← hAL, hLS2]; exact hPB)
        have HKK := Lib.hid (show AL.length ≤ 100 by have := HALL.out; omega)
        have RL := Lib.hid (show LS.length ≤ 100 by have := rev_len AL q; rw [← hAL, hLS2, hAL] at this; have := HKK.out; omega)
        rw [hLS] at ELOG
        rw [hAL] at EALL
        have HLS := Lib.hid (show AL.reverse.take (q + 1) = LS by rw [← hAL]; exact hLS2)
        have HALN := Lib.hid hALn
        obtain ⟨a7, c7, hv7⟩ : ∃ a c, v7 = .slice a (al.length + 1) c := own_shape O7.out
        subst hv7
        have hcm := HCM.out
        have hcc := HCC.out
        clear hLS hLS2 hAL hPB hALn ADN ADO x60
        go_wp2_with (first
          | (go_at_call 28; go_loud (refine (Count_ok p _ _ (q + 1) _ _ w7 ELOG.out).mono ?_; rintro r wz ⟨rfl, rfl⟩))
          | (go_at_call 29; go_loud (refine (Page_ok p LS _ (q + 1) _ _ PB w7 ELOG.out (by have := RL.out; omega) (by have := HQ.out; omega) HPB.out).mono ?_; rintro r wp ⟨up, rfl, hu, hw⟩; have UP := Lib.hid hu; have DP := Lib.hid hw; clear hu hw))
          | (go_at_call 30; go_loud (refine (rPage_at (q + 1) _ AL PB wp (EALL.out.below DP.out).parts EALL.out.len (by have := HQ.out; omega) (by have := HKK.out; omega) HPB2.out).mono ?_; rintro r wq ⟨uq, rfl, hu, hw⟩; have UQ := Lib.hid hu; have UP2 := Lib.hid (UP.out.below hw); have DQ := Lib.hid (gr_tr DP.out hw); clear hu hw))
          | (go_at_call 17; go_loud (refine (same_at _ _ PB PB true _ UP2.out UQ.out (beq_self_eq_true PB)).mono ?_; rintro r wz ⟨rfl, rfl⟩)))
        go_roundw
        case rel => exact ⟨k + 1, AL, lv6, u0 :: vs.take m, vs2 ++ [.slice a5 n5 c5], by omega, by go_num, by have := HAK.out; have := HALN.out; omega, by rw [HLS.out, HALN.out, HCM.out]; exact ELOG.out.below DQ.out, EALL.out.below DQ.out, NP1.out, NP2.out, gr_tr D7.out DQ.out⟩
        case measure => simp [intOf]; omega
    · obtain rfl : k = x.length := by omega
      obtain ⟨c0, hc0⟩ : ∃ c, BitVec.ofNat 64 al.length = c := ⟨_, rfl⟩
      rw [hc0] at EL
      have HC0 := Lib.hid hc0
      obtain ⟨LS, hLS⟩ : ∃ L, al.reverse.take (q + 1) = L := ⟨_, rfl⟩
      obtain ⟨PB, hPB⟩ : ∃ B, pgB (q + 1) LS = B := ⟨_, rfl⟩
      have HPB := Lib.hid hPB
      have HPB2 := Lib.hid (show pgB (q + 1) (al.reverse.take (q + 1)) = PB by rw [hLS]; exact hPB)
      have RL := Lib.hid (show LS.length ≤ 100 by have := rev_len al q; rw [hLS] at this; have := HALL.out; omega)
      rw [hLS] at EL
      clear hLS hPB
      go_upto_region 21 with (go_at_call 31; go_loud (refine (Copy_ok p LS c0 q lv vs wr EL.out RL.out).mono ?_; rintro r wa ⟨p2, lv2, rfl, hp2, hE2, hw⟩; have P2 := Lib.hid hp2; have EC := Lib.hid hE2; have BA := Lib.hid hw; clear hp2 hE2 hw))
      go_upto_region 24 with (go_at_call 27; go_loud (refine (Add_ok p2 LS c0 q lv2 vs erZ _ wa EC.out RL.out HQ.out exE_ok rfl).mono ?_; rintro r wb ⟨rfl, -, hc⟩; have BB := Lib.hid (hc.fresh BA.out (fun k hk => by subst hk; exact P2.out)); clear hc))
      have EL2 := Lib.hid (EL.out.below BB.out)
      have EA2 := Lib.hid (EA.out.below BB.out)
      go_upto_region 28 with (go_at_call 27; go_loud (refine (Add_nil erZ wb).mono ?_; rintro r wd ⟨rfl, hw⟩; have BD := Lib.hid hw; clear hw))
      have EL3 := Lib.hid (EL2.out.below BD.out)
      have EA3 := Lib.hid (EA2.out.below BD.out)
      have D3 := Lib.hid (gr_tr (gr_tr D2.out BB.out) BD.out)
      go_wp2_with (first
        | (go_at_call 28; go_loud ((with_reducible refine (Count_ok p _ _ (q + 1) _ _ wd EL3.out).mono ?_); rintro r wz ⟨rfl, rfl⟩))
        | (go_at_call 29; go_loud ((with_reducible refine (Page_ok p LS _ (q + 1) _ _ PB wd EL3.out (by have := RL.out; omega) (by have := HQ.out; omega) HPB.out).mono ?_); rintro r wp ⟨up, rfl, hu, hw⟩; have UP := Lib.hid hu; have DP := Lib.hid hw; clear hu hw))
        | (go_at_call 30; go_loud (refine (rPage_at (q + 1) _ al PB wp (EA3.out.below DP.out).parts EA3.out.len (by have := HQ.out; omega) (by have := HALL.out; omega) HPB2.out).mono ?_; rintro r wq ⟨uq, rfl, hu, hw⟩; have UQ := Lib.hid hu; have UP2 := Lib.hid (UP.out.below hw); have DQ := Lib.hid (gr_tr DP.out hw); clear hu hw))
        | (go_at_call 17; go_loud (refine (same_at _ _ PB PB true _ UP2.out UQ.out (beq_self_eq_true PB)).mono ?_; rintro r wz ⟨rfl, rfl⟩))
        | (go_at_call 29; go_loud ((with_reducible refine (Page_nil _).mono ?_); rintro r wz ⟨rfl, rfl⟩))
        | (go_at_call 28; go_loud ((with_reducible refine (Count_nil _).mono ?_); rintro r wz ⟨rfl, rfl⟩))
        | (go_at_call 31; go_loud ((with_reducible refine (Copy_nil _).mono ?_); rintro r wz ⟨rfl, rfl⟩))
        | (go_at_call 13; go_loud (refine (known_any _ (tab_below TAB.out (gr_tr D3.out DQ.out))).mono ?_; rintro r wk ⟨rfl, hw⟩; have DK := Lib.hid (gr_tr (gr_tr D3.out DQ.out) hw); clear hw)))
      go_ret
      exact ⟨rfl, DK.out⟩
end Go.Proofs.YthnnopjakpjoeaaDoor
