/- The walks of a writer's Add, AddBytes, AddText, Zero, Len. -/
import Derived.Test.YthnnopjakpjoeaaDoorPadA
import Derived.Test.YthnnopjakpjoeaaDoorWireD
namespace Go.Proofs.YthnnopjakpjoeaaDoor
open Go.RowKit
theorem Zero_neg (p : Nat) (n : Int) (w : World) (h : n < 0) :
    Calls Tryd.prog 146 #[.pointer (some ⟨p, 0, none⟩), .int .i64 n] w fun r w' => r = .returned (.int .i64 2) ∧ w = w' := by
  go_enter Tryd.func146, Tryd.ntmps146
  go_wp2
  go_ret
  exact ⟨rfl, rfl⟩
theorem Zero_w (base p : Nat) (v : Value) (l : List (BitVec 8)) (n k : Nat) (b : List (BitVec 8)) (w : World) (hw : WrAt w base p v l) (hb : base ≤ w.heap.size) (hk : min n 1048577 = k) (hbb : List.replicate k 0#8 = b) :
    Calls Tryd.prog 146 #[.pointer (some ⟨p, 0, none⟩), .int .i64 n] w fun r w' => r = .returned (.int .i64 (addE l b 0)) ∧ (∃ v', WrAt w' base p v' (addL l b 0) ∧ (v'.ownBlock = v.ownBlock ∨ ∃ g, v'.ownBlock = some g ∧ w.heap.size ≤ g)) ∧ Chg (WrB p v) w w' := by
  have hk2 : min (n : Int) 1048577 = (k : Int) := by omega
  have hkb : k ≤ 1048577 := by omega
  have hbl : b.length = k := by rw [← hbb, List.length_replicate]
  have WR := Lib.hid hw; have HBB := Lib.hid hbb; have HBL := Lib.hid hbl; have HB := Lib.hid hb; have HK := Lib.hid hkb
  clear hw hbb hbl hb hk
  have hn0 : decide ((n : Int) < 0) = false := decide_eq_false (by omega)
  go_enter Tryd.func146, Tryd.ntmps146
  go_wp2_with (first
    | (refine min_law rfl (.tmp 12) (.const (.int .i64 1048577)) rfl (k : Int) rfl rfl hk2 ?_)
    | (refine make_law bytesOk rfl _ _ rfl w.heap.size .i64 .i64 (k : Int) (k : Int) k rfl rfl rfl rfl (by omega) (by omega) (Nat.le_refl _) ?_; intro w1 hown hgrow; have U1 := Lib.hid (BytesV.of_own (l := b) (by rw [HBL.out, ← HBB.out, ← by8_made]; exact hown)); have C1 := Lib.hid ((Below.refl w.heap.size w).grown hgrow (Nat.le_refl _) (by intro k hk; cases hk)); clear hgrow hown)
    | (go_at_call 180; go_loud (refine (add_any base p v l _ b 0 _ (WR.out.below C1.out) U1.out (Nat.le_trans HB.out C1.out.size) (by rw [HBL.out]; have := HK.out; omega)).mono ?_; rintro r w2 ⟨rfl, ⟨v', hw2, hat⟩, hc⟩; have W2 := Lib.hid hw2; have AT := Lib.hid hat; have C2 := Lib.hid hc; clear hw2 hat hc)))
  go_ret
  refine ⟨rfl, ⟨v', W2.out, ?_⟩, (Chg.of_below C1.out).trans C2.out⟩
  rcases AT.out with h | h
  · exact .inl h
  · exact .inr ⟨_, h, C1.out.size⟩
theorem Len_w (base p : Nat) (v : Value) (l : List (BitVec 8)) (w : World) (hw : WrAt w base p v l) :
    Calls Tryd.prog 147 #[.pointer (some ⟨p, 0, none⟩)] w fun r w' => r = .returned (.int .i64 l.length) ∧ w = w' := by
  have d0 : w.cell? ⟨p, 0, none⟩ = some v := (cell_of_row _ _ 0 _ _ _ hw.blk).trans rfl
  obtain ⟨a, c, rfl⟩ := own_shape hw.own
  clear hw
  go_enter Tryd.func147, Tryd.ntmps147
  go_wp2
  go_ret
  exact ⟨rfl, rfl⟩
end Go.Proofs.YthnnopjakpjoeaaDoor
