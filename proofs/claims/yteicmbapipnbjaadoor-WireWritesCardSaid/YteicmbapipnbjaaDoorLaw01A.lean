/- The walk of capsulelaw01.known: the examples of the chapter. -/
import Derived.Test.YteicmbapipnbjaaDoorRef01C
import Derived.Test.YteicmbapipnbjaaDoorWireJ
import Derived.Test.YteicmbapipnbjaaDoorWireK
import Derived.Test.YteicmbapipnbjaaDoorRef01
import Derived.Lib.SlBytesConst
import Derived.Deep.DeepCutAuto
namespace Go.Proofs.YteicmbapipnbjaaDoor
open Go.RowKit
set_option linter.unusedVariables false
set_option linter.unusedSimpArgs false
theorem Chg.fresh {B : Nat → Prop} {w w1 w2 : World} (h : Chg B w1 w2) (hb : Below w.heap.size w w1) (hq : ∀ k, B k → w.heap.size ≤ k) : Below w.heap.size w w2 :=
  hb.trans (h.below hq hb.size)
theorem wr_new (w : World) : WrAt (w.alloc (.cells #[.slice none 0 0] 51)) w.heap.size w.heap.size (.slice none 0 0) [] :=
  ⟨heap_alloc_new w _, World.ownsRow_nil _ _ _ _, by simp⟩
theorem wr_fresh {w w1 w2 : World} {base p : Nat} {v : Value} {l : List (BitVec 8)} (hw : WrAt w1 base p v l) (h : Chg (WrB p v) w1 w2) (hb : Below w.heap.size w w1) (h1 : w.heap.size ≤ p) (h2 : w.heap.size ≤ base) : Below w.heap.size w w2 :=
  h.fresh hb (fun k hk => by rcases hk with rfl | hk; exact h1; exact Nat.le_trans h2 (hw.own.lt k hk).1)
theorem same_at (v u : Value) (l m : List (BitVec 8)) (b : Bool) (w : World) (hv : BytesV w v l) (hu : BytesV w u m) (hb : (l == m) = b) :
    Calls Tryd.prog 13 #[v, u] w fun e w' => e = .returned (.bool b) ∧ w = w' := by subst hb; exact Same_any v u l m w hv hu
/-! the examples -/
theorem kn_put1 (w : World) : Calls Tryd.prog 11 #[.int .u64 258, .int .i64 4] w fun x w' => ∃ u, x = .returned (.tuple #[u, .int .i64 0]) ∧ BytesV w' u [2#8, 1#8, 0#8, 0#8] ∧ Below w.heap.size w w' :=
  (Put_at 258#64 4 0 [2#8, 1#8, 0#8, 0#8] w (by decide +kernel) (by decide +kernel)).mono fun x w' ⟨u, h, ho, hb⟩ => ⟨u, h, BytesV.of_own ho, hb⟩
theorem kn_put2 (w : World) : Calls Tryd.prog 11 #[.int .u64 256, .int .i64 1] w fun x w' => ∃ u, x = .returned (.tuple #[u, .int .i64 3]) ∧ Below w.heap.size w w' :=
  (Put_at 256#64 1 3 [] w (by decide +kernel) (by decide +kernel)).mono fun x w' ⟨u, h, ho, hb⟩ => ⟨u, h, hb⟩
theorem kn_put3 (w : World) : Calls Tryd.prog 11 #[.int .u64 0, .int .i64 9] w fun x w' => ∃ u, x = .returned (.tuple #[u, .int .i64 2]) ∧ Below w.heap.size w w' :=
  (Put_at 0#64 9 2 [] w (by decide +kernel) (by decide +kernel)).mono fun x w' ⟨u, h, ho, hb⟩ => ⟨u, h, hb⟩
theorem kn_get (v : Value) (w : World) (hv : BytesV w v [2#8, 1#8]) : Calls Tryd.prog 15 #[v] w fun e w' => e = .returned (.tuple #[.int .u64 258, .int .i64 0]) ∧ w = w' :=
  Get_at v _ 258#64 0 w hv (by decide +kernel) (by decide +kernel)
theorem kn_field (w : World) : Calls Tryd.prog 17 #[.int .u64 64206, .int .i64 4, .int .i64 8] w fun r w' => r = .returned (.tuple #[.int .u64 172, .int .i64 0]) ∧ w = w' :=
  Field_at 64206#64 4 8 172#64 0 w (by omega) (by decide +kernel) (by decide +kernel)
theorem kn_insert (w : World) : Calls Tryd.prog 19 #[.int .u64 64206, .int .i64 4, .int .i64 8, .int .u64 1] w fun r w' => r = .returned (.tuple #[.int .u64 61470, .int .i64 0]) ∧ Below w.heap.size w w' :=
  Insert_at 64206#64 4 8 1#64 61470#64 0 w (by omega) (by decide +kernel) (by decide +kernel)
def knAB : List (BitVec 8) := [97#8, 98#8, 32#8, 32#8]
theorem kn_pad1 (w : World) : Calls Tryd.prog 21 #[.string ⟨#[97, 98]⟩, .int .i64 4] w fun x w' => ∃ u, x = .returned (.tuple #[u, .int .i64 0]) ∧ BytesV w' u knAB ∧ Below w.heap.size w w' :=
  Pad_at [97#8, 98#8] 4 0 knAB w (by simp) (by omega) (by decide +kernel) (by decide +kernel)
theorem kn_pad2 (w : World) : Calls Tryd.prog 21 #[.string ⟨#[97, 98, 99]⟩, .int .i64 2] w fun x w' => ∃ u, x = .returned (.tuple #[u, .int .i64 5]) ∧ Below w.heap.size w w' :=
  (Pad_at [97#8, 98#8, 99#8] 2 5 [] w (by simp) (by omega) (by decide +kernel) (by decide +kernel)).mono fun x w' ⟨u, h, ho, hb⟩ => ⟨u, h, hb⟩
theorem kn_text (v : Value) (w : World) (hv : BytesV w v knAB) : Calls Tryd.prog 23 #[v] w fun e w' => e = .returned (.tuple #[.string ⟨#[97, 98]⟩, .int .i64 0]) ∧ w = w' :=
  Text_at v knAB [97#8, 98#8] 0 w hv (by decide) (by decide +kernel) (by decide +kernel)
theorem kn_add (base p : Nat) (v : Value) (w : World) (hw : WrAt w base p v []) (hb : base ≤ w.heap.size) : Calls Tryd.prog 40 #[.pointer (some ⟨p, 0, none⟩), .int .u64 5, .int .i64 2] w fun r w' => r = .returned (.int .i64 0) ∧ (∃ v', WrAt w' base p v' [5#8, 0#8]) ∧ Chg (WrB p v) w w' :=
  (Add_w base p v [] 5#64 2 [5#8, 0#8] 0 w hw hb (by decide +kernel) (by decide +kernel)).mono fun r w' ⟨h, ⟨v', h1, _⟩, h2⟩ => ⟨h, ⟨v', h1⟩, h2⟩
theorem kn_zero (base p : Nat) (v : Value) (w : World) (hw : WrAt w base p v [5#8, 0#8]) (hb : base ≤ w.heap.size) : Calls Tryd.prog 37 #[.pointer (some ⟨p, 0, none⟩), .int .i64 1] w fun r w' => r = .returned (.int .i64 0) ∧ (∃ v', WrAt w' base p v' [5#8, 0#8, 0#8]) ∧ Chg (WrB p v) w w' :=
  (Zero_w base p v [5#8, 0#8] 1 1 [0#8] w hw hb (by decide) rfl).mono fun r w' ⟨h, ⟨v', h1, _⟩, h2⟩ => ⟨h, ⟨v', h1⟩, h2⟩
theorem kn_next1 {d : Nat} (p : Nat) (v : Value) (w : World) (hp : RdAt w 99 p d v [5#8, 0#8, 0#8] 0) : Calls Tryd.prog 41 #[.pointer (some ⟨p, 0, none⟩), .int .i64 2] w fun e w' => e = .returned (.tuple #[.int .u64 5, .int .i64 0]) ∧ (∃ v', RdAt w' 99 p d v' [0#8] 2) ∧ Chg (fun b => b = p) w w' :=
  Next_ok p v [5#8, 0#8, 0#8] 0 2 5#64 w hp (by decide) (by decide) (by decide) (by decide +kernel)
theorem kn_zeros {d : Nat} (p : Nat) (v : Value) (w : World) (hp : RdAt w 99 p d v [0#8] 2) : Calls Tryd.prog 43 #[.pointer (some ⟨p, 0, none⟩), .int .i64 1] w fun e w' => e = .returned (.int .i64 0) ∧ (∃ v', RdAt w' 99 p d v' [] 3) ∧ Chg (fun b => b = p) w w' :=
  Zeros_ok p v [0#8] 2 1 w hp (by decide) (by decide +kernel)
theorem kn_next2 {d : Nat} (p : Nat) (v : Value) (w : World) (hp : RdAt w 99 p d v [] 3) : Calls Tryd.prog 41 #[.pointer (some ⟨p, 0, none⟩), .int .i64 1] w fun e w' => e = .returned (.tuple #[.int .u64 0, .int .i64 4]) ∧ Below w.heap.size w w' :=
  Next_no p v [] 3 1 4 w hp (by decide +kernel) (by omega)
theorem lit4 (w : World) (cs : Array Value) (t : TypeId) (fr : Nat × Nat) (l : List (BitVec 8)) (n : Nat) (hn : n = l.length) (hm : n ≤ 9223372036854775807) (hcs : cs.toList = by8 l) : BytesV (w.alloc (.cells cs t fr)) (.slice (some ⟨w.heap.size, 0, none⟩) n n) l := by
  subst hn
  exact ⟨_, _, rfl, by simp, Nat.le_refl _, hm, by rw [← hcs]; exact Row.lit _ _ _ _⟩
theorem lit3 (w : World) (cs : Array Value) (t : TypeId) (l : List (BitVec 8)) (n : Nat) (hn : n = l.length) (hm : n ≤ 9223372036854775807) (hcs : cs.toList = by8 l) : BytesV (w.alloc (.cells cs t)) (.slice (some ⟨w.heap.size, 0, none⟩) n n) l := by
  subst hn
  exact ⟨_, _, rfl, by simp, Nat.le_refl _, hm, by rw [← hcs]; exact Row.lit _ _ _ _⟩
set_option maxRecDepth 20000 in
set_option maxHeartbeats 1600000 in
theorem known_any (w : World) : Calls Tryd.prog 14 #[] w fun e w' => e = .returned (.bool true) ∧ Below w.heap.size w w' := by
  have kc := fun (w : World) (C : Array Value) (n c : Nat) => Lib.run_convert_bytes_const (P := Tryd.prog) w 23 5 C n c Tryd.underlying23 Tryd.underlying5
  go_enter Tryd.func14, Tryd.ntmps14
  go_upto_region 7 with (first
    | (go_at_call 11; go_loud ((with_reducible refine (kn_put1 _).mono ?_); rintro r w1 ⟨u1, rfl, hu, hw⟩; have X := Lib.hid hu; have B := Lib.hid hw; clear hu hw))
    | (go_at_call 11; go_loud ((with_reducible refine (kn_put2 _).mono ?_); rintro r w2 ⟨u2, rfl, hw⟩; replace X := Lib.hid (X.out.below hw); replace B := Lib.hid (gr_tr B.out hw); clear hw))
    | (go_at_call 11; go_loud ((with_reducible refine (kn_put3 _).mono ?_); rintro r w3 ⟨u3, rfl, hw⟩; replace X := Lib.hid (X.out.below hw); replace B := Lib.hid (gr_tr B.out hw); clear hw))
    | (go_at_call 15; go_loud (refine (kn_get _ (w3.alloc (.cells #[.int .u8 2, .int .u8 1] 5)) (lit3 w3 #[.int .u8 2, .int .u8 1] 5 [2#8, 1#8] 2 rfl (by omega) rfl)).mono ?_; rintro r w' ⟨rfl, rfl⟩))
    | (go_at_call 17; go_loud (refine (kn_field _).mono ?_; rintro r w' ⟨rfl, rfl⟩))
    | (go_at_call 19; go_loud (refine (kn_insert _).mono ?_; rintro r w4 ⟨rfl, hw⟩; replace hw := gr_tr (gr_alloc w3 (.cells #[.int .u8 2, .int .u8 1] 5)) hw; replace X := Lib.hid (X.out.below hw); replace B := Lib.hid (gr_tr B.out hw); clear hw)))
  go_upto_region 9 with (first
    | (go_at_call 13; go_loud (refine (same_at _ _ [2#8, 1#8, 0#8, 0#8] [2#8, 1#8, 0#8, 0#8] true (w4.alloc (.cells #[.int .u8 2, .int .u8 1, .int .u8 0, .int .u8 0] 5)) (X.out.below (gr_alloc _ _)) (lit3 w4 #[.int .u8 2, .int .u8 1, .int .u8 0, .int .u8 0] 5 [2#8, 1#8, 0#8, 0#8] 4 rfl (by omega) rfl) (by decide)).mono ?_; rintro r w' ⟨rfl, rfl⟩; replace B := Lib.hid (gr_tr B.out (gr_alloc w4 (.cells #[.int .u8 2, .int .u8 1, .int .u8 0, .int .u8 0] 5))))))
  generalize (w4.alloc (.cells #[.int .u8 2, .int .u8 1, .int .u8 0, .int .u8 0] 5)) = w40 at *
  clear X
  go_upto_region 12 with (first
    | (go_at_call 21; go_loud ((with_reducible refine (kn_pad1 _).mono ?_); rintro r w5 ⟨u5, rfl, hu, hw⟩; have Y := Lib.hid hu; replace B := Lib.hid (gr_tr B.out hw); clear hu hw))
    | (go_at_call 21; go_loud ((with_reducible refine (kn_pad2 _).mono ?_); rintro r w6 ⟨u6, rfl, hw⟩; replace Y := Lib.hid (Y.out.below hw); replace B := Lib.hid (gr_tr B.out hw); clear hw))
    | (go_at_call 23; go_loud (refine (kn_text _ (w6.alloc (.cells #[.int .u8 97, .int .u8 98, .int .u8 32, .int .u8 32] 5 (4, 5))) (lit4 w6 #[.int .u8 97, .int .u8 98, .int .u8 32, .int .u8 32] 5 (4, 5) knAB 4 rfl (by omega) rfl)).mono ?_; rintro r w' ⟨rfl, rfl⟩)))
  have Y2 := Lib.hid (Y.out.below (gr_alloc w6 (.cells #[.int .u8 97, .int .u8 98, .int .u8 32, .int .u8 32] 5 (4, 5)))); have B2 := Lib.hid (gr_tr B.out (gr_alloc w6 (.cells #[.int .u8 97, .int .u8 98, .int .u8 32, .int .u8 32] 5 (4, 5))))
  generalize (w6.alloc (.cells #[.int .u8 97, .int .u8 98, .int .u8 32, .int .u8 32] 5 (4, 5))) = W9 at *
  clear Y B
  go_upto_region 18 with (first
    | (go_at_call 40; go_loud (refine (kn_add _ _ _ _ (wr_new W9) (Nat.le_of_lt (by simp))).mono ?_; rintro r w10 ⟨rfl, ⟨v10, hw⟩, hc⟩; have D := Lib.hid (wr_fresh (wr_new W9) hc (gr_alloc W9 _) (Nat.le_refl _) (Nat.le_refl _)); have W10 := Lib.hid hw; clear hw hc))
    | (go_at_call 37; go_loud (refine (kn_zero _ _ _ _ W10.out D.out.size).mono ?_; rintro r w11 ⟨rfl, ⟨v11, hw⟩, hc⟩; replace D := Lib.hid (wr_fresh W10.out hc D.out (Nat.le_refl _) (Nat.le_refl _)); have W11 := Lib.hid hw; clear hw hc))
    | (go_at_call 27; go_loud (refine (Bytes_w _ _ _ _ _ W11.out).mono ?_; rintro r w12 ⟨u12, rfl, ho, hw⟩; have U := Lib.hid (BytesV.of_own (l := [5#8, 0#8, 0#8]) ho); replace D := Lib.hid (D.out.trans (hw.mono D.out.size)); clear ho hw))
    | (go_at_call 26; go_loud (refine (NewReader_any _ _ _ U.out (by decide)).mono ?_; rintro r w13 ⟨q, v13, rfl, hq, hr, hw⟩; have R := Lib.hid hr; have HQ := Lib.hid (show W9.heap.size ≤ q from Nat.le_trans D.out.size hq); replace D := Lib.hid (D.out.trans (hw.mono D.out.size)); clear hr hw hq))
    | (go_at_call 41; go_loud ((with_reducible refine (kn_next1 _ _ _ R.out).mono ?_); rintro r w14 ⟨rfl, ⟨v14, hr⟩, hc⟩; have R2 := Lib.hid hr; replace D := Lib.hid (hc.fresh D.out (fun k hk => hk ▸ HQ.out)); clear hr hc))
    | (go_at_call 43; go_loud ((with_reducible refine (kn_zeros _ _ _ R2.out).mono ?_); rintro r w15 ⟨rfl, ⟨v15, hr⟩, hc⟩; have R3 := Lib.hid hr; replace D := Lib.hid (hc.fresh D.out (fun k hk => hk ▸ HQ.out)); clear hr hc))
    | (go_at_call 41; go_loud ((with_reducible refine (kn_next2 _ _ _ R3.out).mono ?_); rintro r w16 ⟨rfl, hw⟩; replace D := Lib.hid (D.out.trans (hw.mono D.out.size)); clear hw)))
  have hs := run_string (Y2.out.below D.out)
  have hs2 : strOf knAB = ⟨#[97, 98, 32, 32]⟩ := rfl
  rw [hs2] at hs
  go_wp2
  go_ret
  exact ⟨rfl, gr_tr B2.out D.out⟩
end Go.Proofs.YteicmbapipnbjaaDoor
