/- Package logpage: f, bit, page, next. -/
import Derived.Test.YthnnopjakpjoeaaDoorLogS
import Derived.Test.YthnnopjakpjoeaaDoorLogR
import Derived.Test.YthnnopjakpjoeaaDoorWireJ
import Derived.Test.YthnnopjakpjoeaaDoorWireK
import Derived.Test.YthnnopjakpjoeaaDoorRows2
import Derived.Test.YthnnopjakpjoeaaDoorFirm
import Derived.Test.YthnnopjakpjoeaaDoorPlanF
namespace Go.Proofs.YthnnopjakpjoeaaDoor
open Go.RowKit Lg
set_option linter.unusedVariables false
set_option linter.unusedSimpArgs false
theorem wr_new (w : World) : WrAt (w.alloc (.cells #[.slice none 0 0] 251)) w.heap.size w.heap.size (.slice none 0 0) [] :=
  ⟨heap_alloc_new w _, World.ownsRow_nil _ _ _ _, by simp⟩
theorem wr_fresh {w w1 w2 : World} {base p : Nat} {v : Value} {l : List (BitVec 8)} (hw : WrAt w1 base p v l) (h : Chg (WrB p v) w1 w2) (hb : Below w.heap.size w w1) (h1 : w.heap.size ≤ p) (h2 : w.heap.size ≤ base) : Below w.heap.size w w2 :=
  h.fresh hb (fun k hk => by rcases hk with rfl | hk; exact h1; exact Nat.le_trans h2 (hw.own.lt k hk).1)
theorem same_at (v u : Value) (l m : List (BitVec 8)) (b : Bool) (w : World) (hv : BytesV w v l) (hu : BytesV w u m) (hb : (l == m) = b) :
    Calls Tryd.prog 17 #[v, u] w fun e w' => e = .returned (.bool b) ∧ w = w' := by subst hb; exact Same_any v u l m w hv hu
set_option maxRecDepth 20000 in
theorem f_any (v n : Int) (w : World) :
    Calls Tryd.prog 100 #[.int .u64 v, .int .i64 n] w fun e w' => e = .returned (.agg #[.int .u64 v, .int .i64 n]) ∧ Below w.heap.size w w' := by
  go_enter Tryd.func100, Tryd.ntmps100
  go_wp2_with (go_loud (refine wpList_store_new rfl 192 (.tmp 4) (.tmp 7) rfl #[.int .u64 v, .int .i64 n] 192 _ rfl rfl (by kernel_rfl) rfl (by simp [Value.oneCell']) ?_; intro w1 hh hb; have HH := Lib.hid hh; have HB := Lib.hid hb; clear hh hb))
  exact bodyPost_ret (v := .agg #[.int .u64 v, .int .i64 n]) (results_cell_row rfl _ _ w.heap.size 192 _ (0, 0) _ rfl HH.out Tryd.underlying192 rfl (by kernel_rfl)) rfl ⟨rfl, HB.out⟩
theorem Zero_i (base p : Nat) (v : Value) (l : List (BitVec 8)) (m : Int) (n : Nat) (w : World) (hm : m = n) (hn : n ≤ 4096) (hw : WrAt w base p v l) (hb : base ≤ w.heap.size) :
    Calls Tryd.prog 146 #[.pointer (some ⟨p, 0, none⟩), .int .i64 m] w fun r w' => r = .returned (.int .i64 (addE l (List.replicate n 0#8) 0)) ∧ (∃ v', WrAt w' base p v' (addL l (List.replicate n 0#8) 0) ∧ (v'.ownBlock = v.ownBlock ∨ ∃ g, v'.ownBlock = some g ∧ w.heap.size ≤ g)) ∧ Chg (WrB p v) w w' := by
  subst hm
  exact Zero_w base p v l n n _ w hw hb (by omega) rfl
theorem addE_ok (l b : List (BitVec 8)) (h : l.length + b.length ≤ 1048576) : addE l b 0 = 0 ∧ addL l b 0 = l ++ b := by
  have h0 : addE l b 0 = 0 := by unfold addE; rw [if_neg (by simp), if_neg (by omega)]
  exact ⟨h0, by unfold addL; rw [if_pos h0]⟩
set_option maxHeartbeats 800000 in
theorem page_any (n : Nat) (m : Int) (u : Value) (fl : List WF) (B : List (BitVec 8)) (w : World) (hm : m = n) (hu : FieldsV w u fl) (hs : fl.length ≤ 10000) (he : Wire.allE fl = 0) (hn : n ≤ 4096) (hc : (Wire.cat fl).length ≤ n) (hB : pageB n fl = B) :
    Calls Tryd.prog 101 #[.int .i64 m, u] w fun e w' => ∃ v, e = .returned v ∧ w'.ownsRow w.heap.size 5 1 v B.length (by8 B) ∧ Below w.heap.size w w' := by
  subst hm
  have hab : Wire.allB fl = Wire.cat fl := by unfold Wire.allB; rw [if_pos he]
  obtain ⟨b, hb⟩ : ∃ b, Wire.cat fl = b := ⟨_, rfl⟩
  rw [hb] at hab hc
  have hpb : b ++ List.replicate (n - b.length) 0#8 = B := by rw [← hB]; unfold pageB; rw [hb]
  obtain ⟨a1, a2⟩ := addE_ok [] b (by simp; omega)
  rw [List.nil_append] at a2
  obtain ⟨a3, a4⟩ := addE_ok b (List.replicate (n - b.length) 0#8) (by rw [List.length_replicate]; omega)
  rw [hpb] at a4
  have U := Lib.hid hu; have HS := Lib.hid hs; have HE := Lib.hid he; have HAB := Lib.hid hab; have A1 := Lib.hid a1; have A2 := Lib.hid a2; have A4 := Lib.hid a4; have A3 := Lib.hid a3
  have HC := Lib.hid hc; have HN := Lib.hid hn
  have hc2 : (b.length : Int) ≤ 4096 := by omega
  have hn2 : (n : Int) ≤ 4096 := by omega
  clear hu hs he hab a1 a2 a3 a4 hB hpb hb
  go_enter Tryd.func101, Tryd.ntmps101
  go_wp2_with (first
    | (go_at_call 145; go_loud (refine (AddAll_any _ _ _ [] _ fl b 0 _ (wr_new w) (U.out.below (gr_alloc _ _)) (Nat.le_of_lt (by simp)) (by have := HS.out; omega) HAB.out HE.out).mono ?_; rw [A1.out, A2.out]; rintro r w1 ⟨rfl, ⟨v1, hw1, -⟩, hc⟩; have D1 := Lib.hid (wr_fresh (wr_new w) hc (gr_alloc w _) (Nat.le_refl _) (Nat.le_refl _)); have W1 := Lib.hid hw1; clear hc hw1))
    | (go_at_call 147; go_loud (refine (Len_w _ _ v1 b _ W1.out).mono ?_; rintro r w2 ⟨rfl, rfl⟩))
    | (go_at_call 146; go_loud (refine (Zero_i _ _ v1 b _ (n - b.length) _ (by have := HC.out; omega) (by have := HN.out; omega) W1.out (by have := D1.out.size; omega)).mono ?_; rw [A3.out, A4.out]; rintro r w3 ⟨rfl, ⟨v3, hw3, -⟩, hc⟩; have D3 := Lib.hid (wr_fresh W1.out hc D1.out (Nat.le_refl _) (Nat.le_refl _)); have W3 := Lib.hid hw3; clear hc hw3))
    | (go_at_call 148; go_loud (refine (Bytes_w _ _ v3 B _ W3.out).mono ?_; rintro r w4 ⟨v4, rfl, ho, hw4⟩; have O4 := Lib.hid (own_base ho D3.out.size); have D4 := Lib.hid (gr_tr D3.out hw4); clear ho hw4)))
  go_ret
  exact ⟨_, rfl, O4.out, D4.out⟩
theorem bit_any (b : Bool) (n : Nat) (w : World) (hn : n ≤ 63) :
    Calls Tryd.prog 108 #[.bool b, .int .i64 n] w fun e w' => e = .returned (.int .u64 (uv (if b then BitVec.ofInt 64 (2 ^ n) else 0#64))) ∧ w = w' := by
  have hm : (n : Int) ≤ 63 := by omega
  cases b
  · go_enter Tryd.func108, Tryd.ntmps108
    go_wp2
    go_ret
    exact ⟨rfl, rfl⟩
  · go_enter Tryd.func108, Tryd.ntmps108
    go_wp2
    go_ret
    exact ⟨rfl, rfl⟩
/-- 'next' at a reader that has that much. -/
theorem next_ok {d : Nat} (p : Nat) (v : Value) (l : List (BitVec 8)) (n : Nat) (m : Int) (k : Nat) (x : BitVec 64) (w : World) (hm : m = k) (hp : RdAt w 287 p d v l n) (h1 : 1 ≤ k) (h8 : k ≤ 8) (hk : k ≤ l.length) (hx : num l 0 k = x) :
    Calls Tryd.prog 104 #[.pointer (some ⟨p, 0, none⟩), .int .i64 m] w fun e w' => e = .returned (.int .u64 (uv x)) ∧ (∃ v', RdAt w' 287 p d v' (l.drop k) (n + k)) ∧ Chg (fun b => b = p) w w' := by
  subst hm
  have P := Lib.hid hp; have H1 := Lib.hid h1; have H8 := Lib.hid h8; have HK := Lib.hid hk; have HX := Lib.hid hx
  clear hp h1 h8 hk hx
  go_enter Tryd.func104, Tryd.ntmps104
  go_wp2_with (go_at_call 150; go_loud (refine (Next_ok p v l n k x _ P.out H1.out H8.out HK.out HX.out).mono ?_; rintro r w1 ⟨rfl, hr, hc⟩; have R1 := Lib.hid hr; have C1 := Lib.hid hc; clear hr hc))
  go_ret
  exact ⟨rfl, R1.out, C1.out⟩
theorem next_no {d : Nat} (p : Nat) (v : Value) (l : List (BitVec 8)) (n : Nat) (m : Int) (k : Nat) (w : World) (hm : m = k) (hp : RdAt w 287 p d v l n) (h1 : 1 ≤ k) (h8 : k ≤ 8) (hk : l.length < k) :
    Calls Tryd.prog 104 #[.pointer (some ⟨p, 0, none⟩), .int .i64 m] w fun e w' => e = .returned (.int .u64 0) ∧ Below w.heap.size w w' := by
  subst hm
  have P := Lib.hid hp
  have her : Wire.takeE l k = 4 := by unfold Wire.takeE; rw [if_neg (by omega), if_pos (by omega)]
  have HER := Lib.hid her
  clear hp h1 h8 hk her
  go_enter Tryd.func104, Tryd.ntmps104
  go_wp2_with (go_at_call 150; go_loud (refine (Next_no p v l n k 4 _ P.out HER.out (by decide)).mono ?_; rintro r w1 ⟨rfl, hc⟩; have C1 := Lib.hid hc; clear hc))
  go_ret
  exact ⟨rfl, C1.out⟩
end Go.Proofs.YthnnopjakpjoeaaDoor
