/- The walks of a writer's Add, AddBytes, AddText, Zero, Len. -/
import Derived.Test.YteicmbapipnbjaaDoorWireI
import Derived.Test.YteicmbapipnbjaaDoorWireD
namespace Go.Proofs.YteicmbapipnbjaaDoor
open Go.RowKit
set_option linter.unusedVariables false
set_option linter.unusedSimpArgs false
theorem Add_w (base p : Nat) (v : Value) (l : List (BitVec 8)) (x : BitVec 64) (n : Int) (b : List (BitVec 8)) (e : Int) (w : World) (hw : WrAt w base p v l) (hb : base ≤ w.heap.size) (hbb : Wire.putB x n = b) (he : Wire.putE x n = e) :
    Calls Tryd.prog 40 #[.pointer (some ⟨p, 0, none⟩), .int .u64 (uv x), .int .i64 n] w fun r w' => r = .returned (.int .i64 (addE l b e)) ∧ (∃ v', WrAt w' base p v' (addL l b e) ∧ (v'.ownBlock = v.ownBlock ∨ ∃ g, v'.ownBlock = some g ∧ w.heap.size ≤ g)) ∧ Chg (WrB p v) w w' := by
  have hlen : b.length ≤ 1000000000 := by rw [← hbb]; have := Wire.putB_len x n; omega
  have WR := Lib.hid hw; have HBB := Lib.hid hbb; have HE := Lib.hid he; have HLEN := Lib.hid hlen; have HB := Lib.hid hb
  clear hw hbb he hlen hb
  go_enter Tryd.func40, Tryd.ntmps40
  go_wp2_with (first
    | (go_at_call 11; go_loud (refine (Put_at x n e b _ HE.out HBB.out).mono ?_; rintro r w1 ⟨u1, rfl, hown, hb1⟩; have U1 := Lib.hid (BytesV.of_own hown); have C1 := Lib.hid hb1; clear hown hb1))
    | (go_at_call 54; go_loud (refine (add_any base p v l u1 b e _ (WR.out.below C1.out) U1.out (Nat.le_trans HB.out C1.out.size) HLEN.out).mono ?_; rintro r w2 ⟨rfl, ⟨v', hw2, hat⟩, hc⟩; have W2 := Lib.hid hw2; have AT := Lib.hid hat; have C2 := Lib.hid hc; clear hw2 hat hc)))
  go_ret
  refine ⟨rfl, ⟨v', W2.out, ?_⟩, (Chg.of_below C1.out).trans C2.out⟩
  rcases AT.out with h | h
  · exact .inl h
  · exact .inr ⟨_, h, C1.out.size⟩
theorem AddBytes_w (base p : Nat) (v : Value) (l : List (BitVec 8)) (u : Value) (b : List (BitVec 8)) (w : World) (hw : WrAt w base p v l) (hu : BytesV w u b) (hb : base ≤ w.heap.size) (hlen : b.length ≤ 1000000000) :
    Calls Tryd.prog 38 #[.pointer (some ⟨p, 0, none⟩), u] w fun r w' => r = .returned (.int .i64 (addE l b 0)) ∧ (∃ v', WrAt w' base p v' (addL l b 0) ∧ (v'.ownBlock = v.ownBlock ∨ ∃ g, v'.ownBlock = some g ∧ w.heap.size ≤ g)) ∧ Chg (WrB p v) w w' := by
  have WR := Lib.hid hw; have U := Lib.hid hu; have HLEN := Lib.hid hlen; have HB := Lib.hid hb
  clear hw hu hlen hb
  go_enter Tryd.func38, Tryd.ntmps38
  go_wp2_with (go_at_call 54; go_loud (refine (add_any base p v l u b 0 _ WR.out U.out HB.out HLEN.out).mono ?_; rintro r w2 ⟨rfl, ⟨v', hw2, hat⟩, hc⟩; have W2 := Lib.hid hw2; have AT := Lib.hid hat; have C2 := Lib.hid hc; clear hw2 hat hc))
  go_ret
  refine ⟨rfl, ⟨v', W2.out, ?_⟩, C2.out⟩
  rcases AT.out with h | h
  · exact .inl h
  · exact .inr ⟨_, h, Nat.le_refl _⟩
theorem AddText_w (base p : Nat) (v : Value) (l s : List (BitVec 8)) (n : Int) (b : List (BitVec 8)) (e : Int) (w : World) (hw : WrAt w base p v l) (hb : base ≤ w.heap.size) (hs : s.length ≤ 140737488355328) (hn : -9223372036854775808 ≤ n) (hbb : Wire.pad s n = b) (he : Wire.padE s n = e) :
    Calls Tryd.prog 39 #[.pointer (some ⟨p, 0, none⟩), .string (strOf s), .int .i64 n] w fun r w' => r = .returned (.int .i64 (addE l b e)) ∧ (∃ v', WrAt w' base p v' (addL l b e) ∧ (v'.ownBlock = v.ownBlock ∨ ∃ g, v'.ownBlock = some g ∧ w.heap.size ≤ g)) ∧ Chg (WrB p v) w w' := by
  have hlen : b.length ≤ 1000000000 := by
    rw [← hbb]; unfold Wire.pad; split
    · rename_i h0
      unfold Wire.padE at h0
      split at h0
      · omega
      · split at h0
        · omega
        · rw [List.length_append, List.length_replicate]; omega
    · simp
  have WR := Lib.hid hw; have HBB := Lib.hid hbb; have HE := Lib.hid he; have HLEN := Lib.hid hlen; have HB := Lib.hid hb; have HS := Lib.hid hs; have HN := Lib.hid hn
  clear hw hbb he hlen hb hs hn
  go_enter Tryd.func39, Tryd.ntmps39
  go_wp2_with (first
    | (go_at_call 21; go_loud (refine (Pad_at s n e b _ HS.out HN.out HE.out HBB.out).mono ?_; rintro r w1 ⟨u1, rfl, hown, hb1⟩; have U1 := Lib.hid hown; have C1 := Lib.hid hb1; clear hown hb1))
    | (go_at_call 54; go_loud (refine (add_any base p v l u1 b e _ (WR.out.below C1.out) U1.out (Nat.le_trans HB.out C1.out.size) HLEN.out).mono ?_; rintro r w2 ⟨rfl, ⟨v', hw2, hat⟩, hc⟩; have W2 := Lib.hid hw2; have AT := Lib.hid hat; have C2 := Lib.hid hc; clear hw2 hat hc)))
  go_ret
  refine ⟨rfl, ⟨v', W2.out, ?_⟩, (Chg.of_below C1.out).trans C2.out⟩
  rcases AT.out with h | h
  · exact .inl h
  · exact .inr ⟨_, h, C1.out.size⟩
theorem Zero_neg (p : Nat) (n : Int) (w : World) (h : n < 0) :
    Calls Tryd.prog 37 #[.pointer (some ⟨p, 0, none⟩), .int .i64 n] w fun r w' => r = .returned (.int .i64 2) ∧ w = w' := by
  go_enter Tryd.func37, Tryd.ntmps37
  go_wp2
  go_ret
  exact ⟨rfl, rfl⟩
theorem Zero_w (base p : Nat) (v : Value) (l : List (BitVec 8)) (n k : Nat) (b : List (BitVec 8)) (w : World) (hw : WrAt w base p v l) (hb : base ≤ w.heap.size) (hk : min n 1048577 = k) (hbb : List.replicate k 0#8 = b) :
    Calls Tryd.prog 37 #[.pointer (some ⟨p, 0, none⟩), .int .i64 n] w fun r w' => r = .returned (.int .i64 (addE l b 0)) ∧ (∃ v', WrAt w' base p v' (addL l b 0) ∧ (v'.ownBlock = v.ownBlock ∨ ∃ g, v'.ownBlock = some g ∧ w.heap.size ≤ g)) ∧ Chg (WrB p v) w w' := by
  have hk2 : min (n : Int) 1048577 = (k : Int) := by omega
  have hkb : k ≤ 1048577 := by omega
  have hbl : b.length = k := by rw [← hbb, List.length_replicate]
  have WR := Lib.hid hw; have HBB := Lib.hid hbb; have HBL := Lib.hid hbl; have HB := Lib.hid hb; have HK := Lib.hid hkb
  clear hw hbb hbl hb hk
  have hn0 : decide ((n : Int) < 0) = false := decide_eq_false (by omega)
  go_enter Tryd.func37, Tryd.ntmps37
  go_wp2_with (first
    | (refine min_law rfl (.tmp 12) (.const (.int .i64 1048577)) rfl (k : Int) rfl rfl hk2 ?_)
    | (refine make_law bytesOk rfl _ _ rfl w.heap.size .i64 .i64 (k : Int) (k : Int) k rfl rfl rfl rfl (by omega) (by omega) (Nat.le_refl _) ?_; intro w1 hown hgrow; have U1 := Lib.hid (BytesV.of_own (l := b) (by rw [HBL.out, ← HBB.out, ← by8_made]; exact hown)); have C1 := Lib.hid ((Below.refl w.heap.size w).grown hgrow (Nat.le_refl _) (by intro k hk; cases hk)); clear hgrow hown)
    | (go_at_call 54; go_loud (refine (add_any base p v l _ b 0 _ (WR.out.below C1.out) U1.out (Nat.le_trans HB.out C1.out.size) (by rw [HBL.out]; have := HK.out; omega)).mono ?_; rintro r w2 ⟨rfl, ⟨v', hw2, hat⟩, hc⟩; have W2 := Lib.hid hw2; have AT := Lib.hid hat; have C2 := Lib.hid hc; clear hw2 hat hc)))
  go_ret
  refine ⟨rfl, ⟨v', W2.out, ?_⟩, (Chg.of_below C1.out).trans C2.out⟩
  rcases AT.out with h | h
  · exact .inl h
  · exact .inr ⟨_, h, C1.out.size⟩
theorem Len_w (base p : Nat) (v : Value) (l : List (BitVec 8)) (w : World) (hw : WrAt w base p v l) :
    Calls Tryd.prog 36 #[.pointer (some ⟨p, 0, none⟩)] w fun r w' => r = .returned (.int .i64 l.length) ∧ w = w' := by
  have d0 : w.cell? ⟨p, 0, none⟩ = some v := (cell_of_row _ _ 0 _ _ _ hw.blk).trans rfl
  obtain ⟨a, c, rfl⟩ := own_shape hw.own
  clear hw
  go_enter Tryd.func36, Tryd.ntmps36
  go_wp2
  go_ret
  exact ⟨rfl, rfl⟩
end Go.Proofs.YteicmbapipnbjaaDoor
