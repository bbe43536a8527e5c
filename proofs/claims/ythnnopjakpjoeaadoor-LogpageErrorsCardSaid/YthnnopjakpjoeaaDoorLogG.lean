/- The error log's Copy, and the reference's Page. Printed by genlogg.py. -/
import Derived.Test.YthnnopjakpjoeaaDoorLogP
import Derived.Test.YthnnopjakpjoeaaDoorLogC
import Derived.Test.YthnnopjakpjoeaaDoorLogR
import Derived.Test.YthnnopjakpjoeaaDoorRows2
namespace Go.Proofs.YthnnopjakpjoeaaDoor
open Go.RowKit Lg
set_option linter.unusedVariables false
set_option linter.unusedSimpArgs false
theorem below_get23 {w w' : World} {b o : Nat} {v : Value} (h : Below w.heap.size w w') (hc : w.cell? ⟨b, o, none⟩ = some v) : w'.cell? ⟨b, o, none⟩ = some v := (Chg.of_below (B := fun _ => False) h).cell hc id
theorem cloneP (v : Value) (base n : Nat) (vs : List Value) (w : World) (h : w.ownsRow base 22 1 v n vs) (h1 : ∀ u ∈ vs, u.oneCell' = true) (hn : n ≤ 100000) :
    Calls Tryd.prog 83 #[v] w fun e w' => ∃ u, e = .returned u ∧ w'.ownsRow w.heap.size 22 1 u n vs ∧ Below w.heap.size w w' := by
  have hlen : vs.length = n := by have := h.1; omega
  rcases id h.2 with ⟨rfl, rfl⟩ | ⟨g, cap, cur, rfl, hg, hh, r1, r2, r3, r4⟩
  · have : vs = [] := List.length_eq_zero_iff.1 hlen
    subst this
    have hq := fun (w : World) n c => Lib.run_eql_slice_nil (P := Tryd.prog) w 55 22 none n c 0 0 Tryd.underlying55
    go_enter Tryd.func83, Tryd.ntmps83
    go_wp2
    go_ret
    exact ⟨_, rfl, World.ownsRow_nil _ _ _ _, Below.refl _ _⟩
  · have h3 := Lib.hid (Row.of_own h)
    have hq := fun (w : World) n c => Lib.run_eql_slice_nil (P := Tryd.prog) w 55 22 (some ⟨g, 0, none⟩) n c 0 0 Tryd.underlying55
    go_enter Tryd.func83, Tryd.ntmps83
    go_wp2_with (at_builtin; refine app_law_at partsOk rfl (.tmp 5) (.tmp 6) rfl w.heap.size (.slice (some ⟨w.heap.size, 0, none⟩) 0 0) 0 [] rfl (World.ownsRow_made w #[] 0 (Nat.le_refl _) (by decide) rfl) (some ⟨g, 0, none⟩) n cap vs rfl (by simp) r1 (h3.out.below (gr_alloc _ _)) (by rw [Nat.mul_one]; exact hlen) h1 (by omega) (by omega) (by simp) ?_; intro v' w' hown hgrow _; simp only [Nat.zero_add, List.nil_append] at hown)
    go_ret
    exact ⟨_, rfl, hown, (gr_alloc w _).grown hgrow (by simp) (by intro k hk; simp [Value.ownBlock] at hk; omega)⟩
theorem ErrAt.one {w : World} {p : Nat} {ls : List (List (BitVec 8))} {c : BitVec 64} {s : Nat} {lv : Value} {vs : List Value} (h : ErrAt w p ls c s lv vs) : ∀ u ∈ vs, u.oneCell' = true := by
  intro z hz
  obtain ⟨i, hi, rfl⟩ := List.mem_iff_getElem.1 hz
  have h1 := h.own.1
  obtain ⟨-, z2, hz2, hz3, -⟩ := h.el i ls[i] (List.getElem?_eq_getElem (by omega))
  rw [List.getElem?_eq_getElem hi] at hz2
  cases hz2; exact off_one hz3
theorem off_new {w : World} {v : Value} {l : List (BitVec 8)} {q : Nat} (h : BytesV w v l) (hl : 0 < l.length) (hq : w.heap.size ≤ q) : Off (fun b => b = q) v := by
  intro g o n c e hg
  subst hg
  obtain ⟨a, c', rfl, -, -, -, hr⟩ := h
  injection e with e1 e2 e3
  subst e1
  obtain ⟨x, hx⟩ : ∃ x, (by8 l)[0]? = some x := ⟨_, List.getElem?_eq_getElem (by rw [by8_length]; exact hl)⟩
  obtain ⟨b, o', e4, hc⟩ := hr.at hx
  injection e4 with e4; injection e4 with e4 e5
  subst e4
  have := block_lt_of_cell hc
  simp only at this
  omega
theorem Copy_nil (w : World) :
    Calls Tryd.prog 31 #[.pointer none] w fun e w' => e = .returned (.pointer none) ∧ w = w' := by
  go_enter Tryd.func31, Tryd.ntmps31
  go_wp2
  go_ret
  exact ⟨rfl, rfl⟩
set_option maxHeartbeats 1600000 in
set_option maxRecDepth 20000 in
theorem Copy_ok (p : Nat) (ls : List (List (BitVec 8))) (c : BitVec 64) (q : Nat) (lv : Value) (vs : List Value) (w : World) (h : ErrAt w p ls c (q + 1) lv vs) (hl : ls.length ≤ 100) :
    Calls Tryd.prog 31 #[.pointer (some ⟨p, 0, none⟩)] w fun e w' => ∃ p2 lv2, e = .returned (.pointer (some ⟨p2, 0, none⟩)) ∧ w.heap.size ≤ p2 ∧ ErrAt w' p2 ls c (q + 1) lv2 vs ∧ Below w.heap.size w w' := by
  have hsz : (((q + 1 : Nat) : Int) == 0) = false := by simp; omega
  have E := Lib.hid h
  have HL := Lib.hid hl
  obtain ⟨al, cl, rfl⟩ := own_shape h.own
  have p0 : w.cell? ⟨p, 0, none⟩ = some (.slice al ls.length cl) := (cell_of_row _ _ 0 _ _ _ h.blk).trans rfl
  have p2 : w.cell? ⟨p, 2, none⟩ = some (.int .i64 ((q + 1 : Nat) : Int)) := (cell_of_row _ _ 2 _ _ _ h.blk).trans rfl
  clear h hl
  go_enter Tryd.func31, Tryd.ntmps31
  go_upto_region 3 with (fail)
  go_upto_region 4 with (refine wpList_load_row rfl 167 (.tmp 14) rfl p rfl 167 #[.slice al ls.length cl, .int .u64 (uv c), .int .i64 ((q + 1 : Nat) : Int)] (0, 0) _ E.out.blk Tryd.underlying167 rfl (by kernel_rfl) ?_)
  obtain ⟨w4, hw4⟩ : ∃ x, x = w.alloc (.cells #[.slice al ls.length cl, .int .u64 (uv c), .int .i64 ((q : Int) + 1)] 167) := ⟨_, rfl⟩
  have Y4 := Lib.hid (show w4.heap[w.heap.size]? = some (.cells #[.slice al ls.length cl, .int .u64 (uv c), .int .i64 ((q : Int) + 1)] 167 (0, 0)) by rw [hw4]; exact heap_alloc_new w _)
  have D4 := Lib.hid (show Below w.heap.size w w4 by rw [hw4]; exact gr_alloc w _)
  rw [← hw4]
  clear hw4
  have x0 : w4.cell? ⟨p, 0, none⟩ = some (.slice al ls.length cl) := below_get23 D4.out p0
  have E4 := Lib.hid (E.out.below D4.out)
  go_upto_region 5 with (first
    | (go_at_call 83; go_loud (refine (cloneP _ _ ls.length vs _ E4.out.own E4.out.one (by have := HL.out; omega)).mono ?_; rintro r w5 ⟨u, rfl, ho, hw⟩; obtain ⟨a2, c2, rfl⟩ := own_shape ho; have O5 := Lib.hid ho; have Y5 := Lib.hid (blk_below Y4.out hw); have E5 := Lib.hid (E4.out.below hw); have D5 := Lib.hid (gr_tr D4.out hw); have S4 := Lib.hid (show w.heap.size < w4.heap.size from (Array.getElem?_eq_some_iff.1 Y4.out).1); clear ho hw; have y0 : w5.cell? ⟨w.heap.size, 0, none⟩ = some (.slice al ls.length cl) := (cell_of_row _ _ 0 _ _ _ Y5.out).trans rfl; have yf := frozen_of_row _ _ 0 _ _ Y5.out)))
  have HSZ := Lib.hid hsz
  obtain ⟨w6, hw6⟩ : ∃ x, x = w5.setCell ⟨w.heap.size, 0, none⟩ (.slice a2 ls.length c2) := ⟨_, rfl⟩
  have cc : Chg (fun b => b = w.heap.size) w5 w6 := by rw [hw6]; exact Chg.setCell (B := fun b => b = w.heap.size) (p := ⟨w.heap.size, 0, none⟩) _ rfl _
  have B6 := Lib.hid (show w6.heap[w.heap.size]? = some (.cells #[.slice a2 ls.length c2, .int .u64 (uv c), .int .i64 ((q : Int) + 1)] 167 (0, 0)) by rw [hw6]; exact heap_setCell_same _ _ _ _ _ _ Y5.out)
  have D6 := Lib.hid (cc.fresh D5.out (fun k hk => by subst hk; exact Nat.le_refl _))
  have O6 := Lib.hid (own_base (own_chg O5.out cc (fun g hg => by have := (O5.out.lt g hg).1; have := S4.out; omega)) (show w.heap.size + 1 ≤ w4.heap.size from S4.out))
  rw [← hw6]
  go_wp2
  go_ret
  exact ⟨w.heap.size, _, rfl, Nat.le_refl _, ⟨B6.out, O6.out, fun i l hi => by
    obtain ⟨h1, z, h2, h3, -⟩ := E.out.el i l hi
    have hoff := off_new (q := w.heap.size) h3 (by omega) (Nat.le_refl _)
    exact ⟨h1, z, h2, h3.below D6.out, hoff⟩⟩, D6.out⟩
namespace Lg
theorem lay_right2 (A B d : List (BitVec 8)) (p : Nat) : Lay.lay (A ++ B) (A.length + p) d = A ++ Lay.lay B p d := by
  unfold Lay.lay
  rw [List.take_length_add_append, Nat.add_assoc, List.drop_length_add_append]; simp only [List.append_assoc]
/-- The reference's page when k entries have been laid. -/
def rpg (s : Nat) (ls : List (List (BitVec 8))) (k : Nat) : List (BitVec 8) := (ls.take k).flatten ++ List.replicate (64 * s - 64 * k) 0#8
theorem flat_take {ls : List (List (BitVec 8))} (h : ∀ (i : Nat) (l : List (BitVec 8)), ls[i]? = some l → l.length = 64) (k : Nat) (hk : k ≤ ls.length) : (ls.take k).flatten.length = 64 * k := by
  rw [flat64 (fun i l hi => h i l (by
    by_cases hik : i < k
    · rwa [List.getElem?_take_of_lt hik] at hi
    · rw [List.getElem?_eq_none (by rw [List.length_take]; omega)] at hi; cases hi)), List.length_take, Nat.min_eq_left hk]
theorem rpg_zero (s : Nat) (ls : List (List (BitVec 8))) : rpg s ls 0 = List.replicate (64 * s) 0#8 := by unfold rpg; rw [List.take_zero]; rfl
theorem rpg_step (s : Nat) (ls : List (List (BitVec 8))) (k : Nat) (e : List (BitVec 8)) (h : ∀ (i : Nat) (l : List (BitVec 8)), ls[i]? = some l → l.length = 64) (hk : ls[k]? = some e) (hs : k < s) : Lay.lay (rpg s ls k) (64 * k) e = rpg s ls (k + 1) := by
  obtain ⟨hkl, rfl⟩ := List.getElem?_eq_some_iff.1 hk
  have h64 := h k _ hk
  have hf := flat_take h k (by omega)
  have := lay_right2 (ls.take k).flatten (List.replicate (64 * s - 64 * k) 0#8) ls[k] 0
  rw [hf, Nat.add_zero] at this
  unfold rpg
  rw [this, lay_zeros, h64, List.take_succ_eq_append_getElem hkl, List.flatten_append, List.flatten_cons, List.flatten_nil, List.append_nil, List.append_assoc, show 64 * s - 64 * k - 64 = 64 * s - 64 * (k + 1) by omega]
theorem rpg_end (s : Nat) (ls : List (List (BitVec 8))) (k : Nat) (h : ∀ (i : Nat) (l : List (BitVec 8)), ls[i]? = some l → l.length = 64) (hk : k = min s ls.length) : rpg s ls k = pgB s (ls.take s) := by
  have e : ls.take s = ls.take k := by
    by_cases hs : s ≤ ls.length
    · rw [hk, Nat.min_eq_left hs]
    · rw [List.take_of_length_le (by omega), List.take_of_length_le (by omega)]
  have hf := flat_take h k (by omega)
  unfold rpg pgB
  rw [e]
  generalize (ls.take k).flatten = F at hf ⊢
  rw [List.take_of_length_le (by rw [hf]; omega), lay_zeros, hf]
end Lg
set_option maxHeartbeats 3200000 in
set_option maxRecDepth 20000 in
theorem rPage_at (s : Nat) (v : Value) (al : List (List (BitVec 8))) (B : List (BitVec 8)) (w : World) (hp : PartsV w v al) (h64 : ∀ (i : Nat) (l : List (BitVec 8)), al[i]? = some l → l.length = 64) (hs : s ≤ 64) (hl : al.length ≤ 100000) (hB : pgB s (al.reverse.take s) = B) :
    Calls Tryd.prog 30 #[.int .i64 s, v] w fun e w' => ∃ u, e = .returned u ∧ BytesV w' u B ∧ Below w.heap.size w w' := by
  obtain ⟨a, c, vs, rfl, h0, h1, h2, h3, h4, h5⟩ := hp
  have R64 : ∀ (i : Nat) (l : List (BitVec 8)), al.reverse[i]? = some l → l.length = 64 := fun i l hi => by
    have hm := List.mem_of_getElem? hi
    rw [List.mem_reverse] at hm
    obtain ⟨q, hq, rfl⟩ := List.mem_iff_getElem.1 hm
    exact h64 q _ (List.getElem?_eq_getElem hq)
  have PZ := Lib.hid (rpg_zero s al.reverse)
  have PS := Lib.hid (fun (k : Nat) (e : List (BitVec 8)) => rpg_step s al.reverse k e R64)
  have PE := Lib.hid (fun (k : Nat) (hk : k = min s al.length) => (rpg_end s al.reverse k R64 (by rw [List.length_reverse]; exact hk)).trans hB)
  obtain ⟨P, hP⟩ : ∃ P, rpg s al.reverse = P := ⟨_, rfl⟩
  rw [hP] at PZ PS PE
  clear hP
  obtain ⟨N, hN⟩ : ∃ N, 64 * s = N := ⟨_, rfl⟩
  rw [hN] at PZ
  have hmul : (64 : Int) * (s : Int) = (N : Int) := by omega
  have hN2 : (N : Int) ≤ 4096 := by omega
  have HN := Lib.hid (show N ≤ 4096 by omega)
  have HNS := Lib.hid hN
  have HLN := Lib.hid hl
  have EL := Lib.hid h5
  have ROW := Lib.hid h3
  have E64 := Lib.hid h64
  have hal : (al.length : Int) ≤ 100000 := by omega
  have hss : (s : Int) ≤ 64 := by omega
  have HSS := Lib.hid hs
  clear h0 h1 h2 h3 h4 h5 R64 hN h64 hl hs hB
  go_enter Tryd.func30, Tryd.ntmps30
  go_upto_region 2 with (refine make_law bytesOk rfl _ _ rfl w.heap.size .i64 .i64 N N N rfl rfl rfl rfl (by have := HN.out; omega) (by have := HN.out; omega) (Nat.le_refl _) ?_; intro w2 hown hgrow; have O2 := Lib.hid (show OwnN N w2 w.heap.size w.heap.size N (P 0) by have h := hown; rw [by8_made, ← PZ.out] at h; exact h); have B2 := Lib.hid ((Below.refl w.heap.size w).grown hgrow (Nat.le_refl _) (by intro k hk; cases hk)); clear hown hgrow)
  go_upto_region 3 with (fail)
  go_loopw [6] (fun i wr => ∃ k : Nat, k ≤ s ∧ k ≤ al.length ∧ i = .int .i64 k ∧ OwnN N wr w.heap.size w.heap.size N (P k) ∧ Below w.heap.size w wr) (fun i _ => s - (intOf i).toNat)
  case atStart => exact ⟨0, by omega, by omega, rfl, O2.out, B2.out⟩
  case round =>
    obtain ⟨k, hks, hkl, rfl, ho, hb⟩ := hrel
    have O6 := Lib.hid ho; have B6 := Lib.hid hb; clear ho hb O2 B2
    by_cases hlt : k < s ∧ k < al.length
    · obtain ⟨hlt1, hlt2⟩ := hlt
      obtain ⟨j, hj⟩ : ∃ j, al.length - 1 - k = j := ⟨_, rfl⟩
      have hjl : j < al.length := by omega
      obtain ⟨e, he⟩ : ∃ e, al[j]? = some e := ⟨_, List.getElem?_eq_getElem hjl⟩
      have her : al.reverse[k]? = some e := by
        rw [List.getElem?_reverse hlt2, hj, he]
      have HS := Lib.hid (PS.out k e her hlt1)
      have EN := Lib.hid (E64.out j e he)
      obtain ⟨u, hu, hbu⟩ := EL.out j e he
      have UB := Lib.hid (hbu.below B6.out)
      obtain ⟨g, o, rfl, c0w⟩ := ROW.out.at (i := j) (v := u) hu
      have hgl : g < w.heap.size := block_lt_of_cell c0w
      have c0 : wr.cell? ⟨g, o + j, none⟩ = some u := below_get23 B6.out c0w
      have ql : ∀ y : KeepT (fun b => b = w.heap.size) wr, y.val.cell? ⟨g, o + j, none⟩ = some u := fun y => y.cell c0 (by show ¬ g = w.heap.size; omega)
      obtain ⟨M, hM⟩ : ∃ M, 64 * k = M := ⟨_, rfl⟩
      have hMN : M + 64 ≤ N := by have := HNS.out; omega
      have HMN := Lib.hid hMN
      have hcut := run_from w.heap.size N N M (by omega) (Nat.le_refl _) (by omega) (by have := HN.out; omega)
      have hw1 : IntKind.i64.wrap (64 * (k : Int)) = (M : Int) := by rw [IntKind.wrap_i64]; omega
      have hw2 : IntKind.i64.wrap ((al.length : Int) - 1) = (al.length : Int) - 1 := by rw [IntKind.wrap_i64]; omega
      have hw3 : IntKind.i64.wrap ((al.length : Int) - 1 - (k : Int)) = (j : Int) := by rw [IntKind.wrap_i64]; omega
      have hw4 : wrap64 (64 * (k : Int)) = (M : Int) := by rw [IntWalk.wrap64_in _ (by omega)]; omega
      have hw5 : wrap64 ((al.length : Int) - 1) = (al.length : Int) - 1 := by rw [IntWalk.wrap64_in _ (by omega)]
      have hw6 : wrap64 ((al.length : Int) - 1 - (k : Int)) = (j : Int) := by rw [IntWalk.wrap64_in _ (by omega)]; omega
      have hj0 : (0 : Int) ≤ (j : Int) := by omega
      have hj1 : (j : Int) < (al.length : Int) := by omega
      have hk1 : (k : Int) < (s : Int) := by omega
      have hk2 : (k : Int) < (al.length : Int) := by omega
      have HM := Lib.hid hM
      obtain ⟨au, nu, cu, rfl⟩ := bytes_shape UB.out
      clear hu hbu he her c0w hgl hM hMN hj
      go_upto_region 5 with (fail)
      refine wp_region_planW (fun b => b = w.heap.size) [(true, 0), (true, 1), (true, 2), (true, 3), (true, 4), (true, 5), (true, 6), (true, 7), (true, 8), (true, 9), (true, 10), (true, 11), (false, 12)] (by kernel_rfl) (by kernel_rfl) (by intro c a d v w h; cases d <;> exact h) ?_
      intro W1 K1 C1
      repeat (refine wpS_firm rfl (fun K hK => ?_); simp only [Keep]; go_simp; refine hK _ ?_; clear hK K)
      refine wpS_chain rfl ?_
      have O7 := Lib.hid (O6.out.below C1.out)
      refine copy_at rfl (.tmp 24) (.tmp 32) rfl w.heap.size w.heap.size N N M (P k) e rfl _ rfl O7.out (UB.out.below C1.out) (by rw [EN.out]; exact HMN.out) (by rw [EN.out]; decide) ?_
      intro w6 ho hg
      rw [← HM.out, HS.out] at ho
      have O8 := Lib.hid (show OwnN N w6 w.heap.size w.heap.size N (P (k + 1)) from ho)
      have B8 := Lib.hid ((gr_tr B6.out C1.out).grown hg (gr_tr B6.out C1.out).size (fun q hq => by cases hq; exact Nat.le_refl _))
      have K3 := Lib.hid (KeepG K1.out hg (fun k hk => by cases hk; exact .inl rfl))
      clear ho hg
      refine ⟨K3.out, ?_⟩
      repeat (refine wpS_firm rfl (fun K hK => ?_); simp only [Keep]; go_simp; refine hK _ ?_; clear hK K)
      unfold wpS
      clear ql
      go_wp2
      go_roundw
      case rel => exact ⟨k + 1, by omega, by omega, by go_num, O8.out, B8.out⟩
      case measure => simp [intOf]; omega
    · have OB := Lib.hid (show OwnN N wr w.heap.size w.heap.size N B by rw [← PE.out k (by omega)]; exact O6.out)
      by_cases h1 : k < s
      · have d1 : decide ((k : Int) < s) = true := decide_eq_true (by omega)
        have d1b : decide (k < s) = true := decide_eq_true h1
        have d2 : decide ((k : Int) < al.length) = false := decide_eq_false (by omega)
        have d2b : decide (k < al.length) = false := decide_eq_false (by omega)
        clear hlt h1
        go_wp2
        go_ret
        exact ⟨_, rfl, OB.out.bytes, B6.out⟩
      · have d1 : decide ((k : Int) < s) = false := decide_eq_false (by omega)
        have d1b : decide (k < s) = false := decide_eq_false h1
        clear hlt h1
        go_wp2
        go_ret
        exact ⟨_, rfl, OB.out.bytes, B6.out⟩
end Go.Proofs.YthnnopjakpjoeaaDoor
