/- The walk of WireLimits. -/
import Derived.Test.YteicmbapipnbjaaDoorLaw01B
import Derived.Test.YteicmbapipnbjaaDoorWireL
namespace Go.Proofs.YteicmbapipnbjaaDoor
open Go.RowKit
set_option linter.unusedVariables false
set_option linter.unusedSimpArgs false
theorem lim_z1 (base p : Nat) (v : Value) (m : Nat) (l : List (BitVec 8)) (w : World) (hw : WrAt w base p v []) (hb : base ≤ w.heap.size) (hm : m ≤ 20) (hl : List.replicate (1048576 - m) 0#8 = l) :
    Calls Tryd.prog 37 #[.pointer (some ⟨p, 0, none⟩), .int .i64 (1048576 - (m : Int))] w fun r w' => r = .returned (.int .i64 0) ∧ (∃ v', WrAt w' base p v' l) ∧ Chg (WrB p v) w w' := by
  have hK : (1048576 - (m : Int)) = ((1048576 - m : Nat) : Int) := by omega
  have hlen : l.length = 1048576 - m := by rw [← hl, List.length_replicate]
  rw [hK]
  refine (Zero_w base p v [] (1048576 - m) (1048576 - m) l w hw hb (by omega) hl).mono ?_
  rintro r w' ⟨rfl, ⟨v', h1, -⟩, hc⟩
  have he : addE [] l 0 = 0 := by
    unfold addE
    rw [if_neg (by decide), if_neg (by rw [hlen]; simp; omega)]
  refine ⟨by rw [he], ⟨v', ?_⟩, hc⟩
  unfold addL at h1
  rw [if_pos he, List.nil_append] at h1
  exact h1
theorem lim_z2 (base p : Nat) (v : Value) (m : Nat) (l L : List (BitVec 8)) (w : World) (hw : WrAt w base p v l) (hb : base ≤ w.heap.size) (hm : m ≤ 20) (hl : List.replicate (1048576 - m) 0#8 = l) (hL : l ++ List.replicate m 0#8 = L) :
    Calls Tryd.prog 37 #[.pointer (some ⟨p, 0, none⟩), .int .i64 (m : Int)] w fun r w' => r = .returned (.int .i64 0) ∧ (∃ v', WrAt w' base p v' L) ∧ Chg (WrB p v) w w' := by
  have hlen : l.length = 1048576 - m := by rw [← hl, List.length_replicate]
  refine (Zero_w base p v l m m (List.replicate m 0#8) w hw hb (by omega) rfl).mono ?_
  rintro r w' ⟨rfl, ⟨v', h1, -⟩, hc⟩
  have he : addE l (List.replicate m 0#8) 0 = 0 := by
    unfold addE
    rw [if_neg (by decide), if_neg (by rw [hlen, List.length_replicate]; omega)]
  refine ⟨by rw [he], ⟨v', ?_⟩, hc⟩
  unfold addL at h1
  rw [if_pos he, hL] at h1
  exact h1
theorem full_e (L b : List (BitVec 8)) (hL : L.length = 1048576) (hb : 0 < b.length) : addE L b 0 = 5 := by
  unfold addE
  rw [if_neg (by decide), if_pos (by rw [hL]; omega)]
theorem full_l (L b : List (BitVec 8)) (hL : L.length = 1048576) (hb : 0 < b.length) : addL L b 0 = L := by
  unfold addL
  rw [full_e L b hL hb, if_neg (by decide)]
theorem full_post {w : World} {base p : Nat} {v : Value} {L b : List (BitVec 8)} (hL : L.length = 1048576) (hb : 0 < b.length) {r : Ending} {w' : World}
    (h : r = .returned (.int .i64 (addE L b 0)) ∧ (∃ v', WrAt w' base p v' (addL L b 0) ∧ (v'.ownBlock = v.ownBlock ∨ ∃ g, v'.ownBlock = some g ∧ w.heap.size ≤ g)) ∧ Chg (WrB p v) w w') :
    r = .returned (.int .i64 5) ∧ (∃ v', WrAt w' base p v' L) ∧ Chg (WrB p v) w w' := by
  rw [full_e L b hL hb, full_l L b hL hb] at h
  exact ⟨h.1, ⟨_, h.2.1.choose_spec.1⟩, h.2.2⟩
theorem lim_full1 (base p : Nat) (v : Value) (L : List (BitVec 8)) (w : World) (hw : WrAt w base p v L) (hb : base ≤ w.heap.size) (hL : L.length = 1048576) :
    Calls Tryd.prog 37 #[.pointer (some ⟨p, 0, none⟩), .int .i64 1] w fun r w' => r = .returned (.int .i64 5) ∧ (∃ v', WrAt w' base p v' L) ∧ Chg (WrB p v) w w' :=
  (Zero_w base p v L 1 1 [0#8] w hw hb (by decide) rfl).mono fun r w1 h => full_post (b := [0#8]) hL (by decide) h
theorem lim_full2 (base p : Nat) (v : Value) (L : List (BitVec 8)) (u : Value) (w : World) (hw : WrAt w base p v L) (hb : base ≤ w.heap.size) (hL : L.length = 1048576) (hu : BytesV w u [1#8]) :
    Calls Tryd.prog 38 #[.pointer (some ⟨p, 0, none⟩), u] w fun r w' => r = .returned (.int .i64 5) ∧ (∃ v', WrAt w' base p v' L) ∧ Chg (WrB p v) w w' :=
  (AddBytes_w base p v L u [1#8] w hw hu hb (by decide)).mono fun r w1 h => full_post (b := [1#8]) hL (by decide) h
theorem lim_full3 (base p : Nat) (v : Value) (L : List (BitVec 8)) (w : World) (hw : WrAt w base p v L) (hb : base ≤ w.heap.size) (hL : L.length = 1048576) :
    Calls Tryd.prog 39 #[.pointer (some ⟨p, 0, none⟩), .string ⟨#[]⟩, .int .i64 1] w fun r w' => r = .returned (.int .i64 5) ∧ (∃ v', WrAt w' base p v' L) ∧ Chg (WrB p v) w w' :=
  (AddText_w base p v L [] 1 [32#8] 0 w hw hb (by decide) (by decide) (by decide +kernel) (by decide +kernel)).mono fun r w1 h => full_post (b := [32#8]) hL (by decide) h
theorem lim_full4 (base p : Nat) (v : Value) (L : List (BitVec 8)) (w : World) (hw : WrAt w base p v L) (hb : base ≤ w.heap.size) (hL : L.length = 1048576) :
    Calls Tryd.prog 40 #[.pointer (some ⟨p, 0, none⟩), .int .u64 0, .int .i64 1] w fun r w' => r = .returned (.int .i64 5) ∧ (∃ v', WrAt w' base p v' L) ∧ Chg (WrB p v) w w' :=
  (Add_w base p v L 0#64 1 [0#8] 0 w hw hb (by decide +kernel) (by decide +kernel)).mono fun r w1 h => full_post (b := [0#8]) hL (by decide) h
theorem lim_len (base p : Nat) (v : Value) (L : List (BitVec 8)) (w : World) (hw : WrAt w base p v L) (hL : L.length = 1048576) :
    Calls Tryd.prog 36 #[.pointer (some ⟨p, 0, none⟩)] w fun r w' => r = .returned (.int .i64 1048576) ∧ w = w' :=
  (Len_w base p v L w hw).mono fun r w' ⟨h, e⟩ => ⟨by rw [h, hL]; rfl, e⟩
theorem lim_out (more n : Int) (x : BitVec 64) (w : World) (hm : more < 0 ∨ 20 < more) :
    Calls Tryd.prog 10 #[.int .i64 more, .int .i64 n, .int .u64 (uv x)] w fun e w' => e = .returned (.bool true) ∧ Below w.heap.size w w' := by
  rcases hm with h | h
  · have d1 : decide (more < 0) = true := decide_eq_true h
    clear h
    go_enter Tryd.func10, Tryd.ntmps10
    go_wp2_with (go_at_call 14; go_loud (refine (known_any _).mono ?_; rintro r w3 ⟨rfl, hw⟩; have B := Lib.hid hw; clear hw))
    go_ret
    exact ⟨rfl, B.out⟩
  · have d1 : decide (more < 0) = false := decide_eq_false (by omega)
    have d2 : decide (20 < more) = true := decide_eq_true (by omega)
    clear h
    go_enter Tryd.func10, Tryd.ntmps10
    go_wp2_with (go_at_call 14; go_loud (refine (known_any _).mono ?_; rintro r w3 ⟨rfl, hw⟩; have B := Lib.hid hw; clear hw))
    go_ret
    exact ⟨rfl, B.out⟩
set_option maxHeartbeats 1600000 in
set_option maxRecDepth 8000 in
theorem lim_in (m : Nat) (n : Int) (x : BitVec 64) (w : World) (hm : m ≤ 20) (hn : -9223372036854775808 ≤ n) :
    Calls Tryd.prog 10 #[.int .i64 (m : Int), .int .i64 n, .int .u64 (uv x)] w fun e w' => e = .returned (.bool true) ∧ Below w.heap.size w w' := by
  have d1 : decide ((m : Int) < 0) = false := decide_eq_false (by omega)
  have d2 : decide (20 < (m : Int)) = false := decide_eq_false (by omega)
  have d3 : decide ((m : Int) > 20) = false := decide_eq_false (by omega)
  have ws : IntKind.i64.wrap (1048576 - (m : Int)) = 1048576 - (m : Int) := by
    unfold IntKind.wrap; simp [IntKind.bits, IntKind.signed]; omega
  obtain ⟨l, hl⟩ : ∃ l, List.replicate (1048576 - m) 0#8 = l := ⟨_, rfl⟩
  obtain ⟨L, hL⟩ : ∃ L, l ++ List.replicate m 0#8 = L := ⟨_, rfl⟩
  have hLL : L.length = 1048576 := by rw [← hL, List.length_append, ← hl, List.length_replicate, List.length_replicate]; omega
  have HL := Lib.hid hl; have HL2 := Lib.hid hL; have HLL := Lib.hid hLL; have HM := Lib.hid hm; have HN := Lib.hid hn
  clear hl hL hLL hm hn
  go_enter Tryd.func10, Tryd.ntmps10
  go_upto_region 5 with (first
    | (go_at_call 37; (with_reducible refine (lim_z1 _ _ _ m l _ (wr_new w) (Nat.le_of_lt (by simp)) HM.out HL.out).mono ?_); rintro r w1 ⟨rfl, ⟨v1, hw⟩, hc⟩; have D := Lib.hid (wr_fresh (wr_new w) hc (gr_alloc w _) (Nat.le_refl _) (Nat.le_refl _)); have W1 := Lib.hid hw; clear hw hc)
    | (go_at_call 37; go_loud ((with_reducible refine (lim_z2 _ _ _ m l L _ W1.out D.out.size HM.out HL.out HL2.out).mono ?_); rintro r w2 ⟨rfl, ⟨v2, hw⟩, hc⟩; replace D := Lib.hid (wr_fresh W1.out hc D.out (Nat.le_refl _) (Nat.le_refl _)); have W2 := Lib.hid hw; clear hw hc)))
  go_upto_region 7 with (first
    | (go_at_call 37; go_loud ((with_reducible refine (lim_full1 _ _ _ L _ W2.out D.out.size HLL.out).mono ?_); rintro r w3 ⟨rfl, ⟨v3, hw⟩, hc⟩; replace D := Lib.hid (wr_fresh W2.out hc D.out (Nat.le_refl _) (Nat.le_refl _)); have W3 := Lib.hid hw; clear hw hc))
    | (go_at_call 38; go_loud (replace D := Lib.hid (gr_tr D.out (gr_alloc w3 (.cells #[.int .u8 1] 5))); replace W3 := Lib.hid (W3.out.below (gr_alloc w3 (.cells #[.int .u8 1] 5))); refine (lim_full2 _ _ _ L _ _ W3.out D.out.size HLL.out (lit3 w3 #[.int .u8 1] 5 [1#8] 1 rfl (by omega) rfl)).mono ?_; rintro r w4 ⟨rfl, ⟨v4, hw⟩, hc⟩; replace D := Lib.hid (wr_fresh W3.out hc D.out (Nat.le_refl _) (Nat.le_refl _)); have W4 := Lib.hid hw; clear hw hc))
    | (go_at_call 39; go_loud (refine (lim_full3 _ _ _ L _ W4.out D.out.size HLL.out).mono ?_; rintro r w5 ⟨rfl, ⟨v5, hw⟩, hc⟩; replace D := Lib.hid (wr_fresh W4.out hc D.out (Nat.le_refl _) (Nat.le_refl _)); have W5 := Lib.hid hw; clear hw hc))
    | (go_at_call 40; go_loud (refine (lim_full4 _ _ _ L _ W5.out D.out.size HLL.out).mono ?_; rintro r w6 ⟨rfl, ⟨v6, hw⟩, hc⟩; replace D := Lib.hid (wr_fresh W5.out hc D.out (Nat.le_refl _) (Nat.le_refl _)); have W6 := Lib.hid hw; clear hw hc)))
  go_upto_region 10 with (go_at_call 36; go_loud (refine (lim_len _ _ _ L _ W6.out HLL.out).mono ?_; rintro r w' ⟨rfl, rfl⟩))
  go_upto_region 12 with (first
    | (go_at_call 40; go_loud (refine (Add_nil x n _).mono ?_; rintro r w7 ⟨rfl, hw⟩; replace D := Lib.hid (D.out.trans (hw.mono D.out.size)); clear hw))
    | (go_at_call 25; go_loud (refine (AddAll_nil _).mono ?_; rintro r w8 ⟨rfl, hw⟩; replace D := Lib.hid (D.out.trans (hw.mono D.out.size)); clear hw))
    | (go_at_call 38; go_loud (refine (AddBytes_nil _).mono ?_; rintro r w' ⟨rfl, rfl⟩))
    | (go_at_call 39; go_loud (refine (AddText_nil n _ HN.out).mono ?_; rintro r w9 ⟨rfl, hw⟩; replace D := Lib.hid (D.out.trans (hw.mono D.out.size)); clear hw))
    | (go_at_call 37; go_loud (refine (Zero_nil n _).mono ?_; rintro r w' ⟨rfl, rfl⟩))
    | (go_at_call 36; go_loud (refine (Len_nil _).mono ?_; rintro r w' ⟨rfl, rfl⟩))
    | (go_at_call 27; go_loud (refine (Bytes_nil _).mono ?_; rintro r w' ⟨rfl, rfl⟩)))
  go_upto_region 16 with (first
    | (go_at_call 41; go_loud (refine (Next_nil _).mono ?_; rintro r w10 ⟨rfl, hw⟩; replace D := Lib.hid (D.out.trans (hw.mono D.out.size)); clear hw))
    | (go_at_call 28; go_loud (refine (All_nil0 _).mono ?_; rintro r w11 ⟨a1, c1, rfl, hw⟩; replace D := Lib.hid (D.out.trans (hw.mono D.out.size)); clear hw))
    | (go_at_call 42; go_loud (refine (Take_nil _).mono ?_; rintro r w12 ⟨a2, c2, rfl, hw⟩; replace D := Lib.hid (D.out.trans (hw.mono D.out.size)); clear hw)))
  go_wp2_with (first
    | (go_at_call 43; go_loud (refine (Zeros_nil _).mono ?_; rintro r w13 ⟨rfl, hw⟩; replace D := Lib.hid (D.out.trans (hw.mono D.out.size)); clear hw))
    | (go_at_call 44; go_loud (refine (Skip_nil _).mono ?_; rintro r w14 ⟨rfl, hw⟩; replace D := Lib.hid (D.out.trans (hw.mono D.out.size)); clear hw))
    | (go_at_call 30; go_loud (refine (Left_nil _).mono ?_; rintro r w15 ⟨rfl, hw⟩; replace D := Lib.hid (D.out.trans (hw.mono D.out.size)); clear hw))
    | (go_at_call 33; go_loud (refine (At_nil _).mono ?_; rintro r w16 ⟨rfl, hw⟩; replace D := Lib.hid (D.out.trans (hw.mono D.out.size)); clear hw))
    | (go_at_call 14; go_loud (refine (known_any _).mono ?_; rintro r w17 ⟨rfl, hw⟩; replace D := Lib.hid (D.out.trans (hw.mono D.out.size)); clear hw)))
  go_ret
  exact ⟨rfl, D.out⟩
theorem lawLimits (more n : Int) (x : BitVec 64) (w : World) (_ : -9223372036854775808 ≤ more ∧ more ≤ 9223372036854775807) (hn : -9223372036854775808 ≤ n ∧ n ≤ 9223372036854775807) :
    Calls Tryd.prog 10 #[.int .i64 more, .int .i64 n, .int .u64 (uv x)] w fun e w' => e = .returned (.bool true) ∧ Below w.heap.size w w' := by
  by_cases h : more < 0 ∨ 20 < more
  · exact lim_out more n x w h
  · obtain ⟨m, rfl⟩ := Int.eq_ofNat_of_zero_le (show 0 ≤ more by omega)
    exact lim_in m n x w (by omega) hn.1
end Go.Proofs.YteicmbapipnbjaaDoor
