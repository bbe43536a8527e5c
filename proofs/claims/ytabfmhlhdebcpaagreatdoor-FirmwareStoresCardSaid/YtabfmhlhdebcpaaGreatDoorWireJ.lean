/- The walks of a writer's Add, AddBytes, AddText, Zero, Len. -/
import Derived.Test.YtabfmhlhdebcpaaGreatDoorPadA
import Derived.Test.YtabfmhlhdebcpaaGreatDoorWireD
namespace Go.Proofs.YtabfmhlhdebcpaaGreatDoor
open Go.RowKit
set_option linter.unusedVariables false
set_option linter.unusedSimpArgs false
theorem Add_w (base p : Nat) (v : Value) (l : List (BitVec 8)) (x : BitVec 64) (n : Int) (b : List (BitVec 8)) (e : Int) (w : World) (hw : WrAt w base p v l) (hb : base ≤ w.heap.size) (hbb : Wire.putB x n = b) (he : Wire.putE x n = e) :
    Calls Tryz.prog 34 #[.pointer (some ⟨p, 0, none⟩), .int .u64 (uv x), .int .i64 n] w fun r w' => r = .returned (.int .i64 (addE l b e)) ∧ (∃ v', WrAt w' base p v' (addL l b e) ∧ (v'.ownBlock = v.ownBlock ∨ ∃ g, v'.ownBlock = some g ∧ w.heap.size ≤ g)) ∧ Chg (WrB p v) w w' := by
  have hlen : b.length ≤ 1000000000 := by rw [← hbb]; have := Wire.putB_len x n; omega
  have WR := Lib.hid hw; have HBB := Lib.hid hbb; have HE := Lib.hid he; have HLEN := Lib.hid hlen; have HB := Lib.hid hb
  clear hw hbb he hlen hb
  go_enter Tryz.func34, Tryz.ntmps34
  go_wp2_with (first
    | (go_at_call 59; go_loud (refine (Put_at x n e b _ HE.out HBB.out).mono ?_; rintro r w1 ⟨u1, rfl, hown, hb1⟩; have U1 := Lib.hid (BytesV.of_own hown); have C1 := Lib.hid hb1; clear hown hb1))
    | (go_at_call 58; go_loud (refine (add_any base p v l u1 b e _ (WR.out.below C1.out) U1.out (Nat.le_trans HB.out C1.out.size) HLEN.out).mono ?_; rintro r w2 ⟨rfl, ⟨v', hw2, hat⟩, hc⟩; have W2 := Lib.hid hw2; have AT := Lib.hid hat; have C2 := Lib.hid hc; clear hw2 hat hc)))
  go_ret
  refine ⟨rfl, ⟨v', W2.out, ?_⟩, (Chg.of_below C1.out).trans C2.out⟩
  rcases AT.out with h | h
  · exact .inl h
  · exact .inr ⟨_, h, C1.out.size⟩
theorem AddBytes_w (base p : Nat) (v : Value) (l : List (BitVec 8)) (u : Value) (b : List (BitVec 8)) (w : World) (hw : WrAt w base p v l) (hu : BytesV w u b) (hb : base ≤ w.heap.size) (hlen : b.length ≤ 1000000000) :
    Calls Tryz.prog 35 #[.pointer (some ⟨p, 0, none⟩), u] w fun r w' => r = .returned (.int .i64 (addE l b 0)) ∧ (∃ v', WrAt w' base p v' (addL l b 0) ∧ (v'.ownBlock = v.ownBlock ∨ ∃ g, v'.ownBlock = some g ∧ w.heap.size ≤ g)) ∧ Chg (WrB p v) w w' := by
  have WR := Lib.hid hw; have U := Lib.hid hu; have HLEN := Lib.hid hlen; have HB := Lib.hid hb
  clear hw hu hlen hb
  go_enter Tryz.func35, Tryz.ntmps35
  go_wp2_with (go_at_call 58; go_loud (refine (add_any base p v l u b 0 _ WR.out U.out HB.out HLEN.out).mono ?_; rintro r w2 ⟨rfl, ⟨v', hw2, hat⟩, hc⟩; have W2 := Lib.hid hw2; have AT := Lib.hid hat; have C2 := Lib.hid hc; clear hw2 hat hc))
  go_ret
  refine ⟨rfl, ⟨v', W2.out, ?_⟩, C2.out⟩
  rcases AT.out with h | h
  · exact .inl h
  · exact .inr ⟨_, h, Nat.le_refl _⟩
theorem AddText_w (base p : Nat) (v : Value) (l s : List (BitVec 8)) (n : Int) (b : List (BitVec 8)) (e : Int) (w : World) (hw : WrAt w base p v l) (hb : base ≤ w.heap.size) (hs : s.length ≤ 140737488355328) (hn : -9223372036854775808 ≤ n) (hbb : Wire.pad s n = b) (he : Wire.padE s n = e) :
    Calls Tryz.prog 33 #[.pointer (some ⟨p, 0, none⟩), .string (strOf s), .int .i64 n] w fun r w' => r = .returned (.int .i64 (addE l b e)) ∧ (∃ v', WrAt w' base p v' (addL l b e) ∧ (v'.ownBlock = v.ownBlock ∨ ∃ g, v'.ownBlock = some g ∧ w.heap.size ≤ g)) ∧ Chg (WrB p v) w w' := by
  have hlen : b.length ≤ 1000000000 := by
    rw [← hbb]; unfold Wire.pad; split
    · rename_i h0
      unfold Wire.padE at h0
      split at h0
      · omega
      · split at h0
        · omega
        · rw [List.length_append, List.length_replicate]; omega
    · simp
  have WR := Lib.hid hw; have HBB := Lib.hid hbb; have HE := Lib.hid he; have HLEN := Lib.hid hlen; have HB := Lib.hid hb; have HS := Lib.hid hs; have HN := Lib.hid hn
  clear hw hbb he hlen hb hs hn
  go_enter Tryz.func33, Tryz.ntmps33
  go_wp2_with (first
    | (go_at_call 52; go_loud (refine (Pad_at s n e b _ (Nat.le_trans HS.out (by decide)) HN.out HE.out HBB.out).mono ?_; rintro r w1 ⟨u1, rfl, hown, hb1⟩; have U1 := Lib.hid hown; have C1 := Lib.hid hb1; clear hown hb1))
    | (go_at_call 58; go_loud (refine (add_any base p v l u1 b e _ (WR.out.below C1.out) U1.out (Nat.le_trans HB.out C1.out.size) HLEN.out).mono ?_; rintro r w2 ⟨rfl, ⟨v', hw2, hat⟩, hc⟩; have W2 := Lib.hid hw2; have AT := Lib.hid hat; have C2 := Lib.hid hc; clear hw2 hat hc)))
  go_ret
  refine ⟨rfl, ⟨v', W2.out, ?_⟩, (Chg.of_below C1.out).trans C2.out⟩
  rcases AT.out with h | h
  · exact .inl h
  · exact .inr ⟨_, h, C1.out.size⟩
end Go.Proofs.YtabfmhlhdebcpaaGreatDoor
