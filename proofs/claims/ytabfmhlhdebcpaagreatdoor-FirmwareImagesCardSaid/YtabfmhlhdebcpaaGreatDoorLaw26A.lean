/- FirmwareImages: the law's walk. -/
import Derived.Test.YtabfmhlhdebcpaaGreatDoorFwM3
import Derived.Test.YtabfmhlhdebcpaaGreatDoorRef01
namespace Go.Proofs.YtabfmhlhdebcpaaGreatDoor
open Go.RowKit Fw
set_option linter.unusedVariables false
set_option linter.unusedSimpArgs false
set_option maxRecDepth 20000 in
theorem lawImages_far (s : Bs) (v : Value) (b : Bs) (w : World) (hs : s.length ≤ 9223372036854775807) (hv : BytesV w v b) (h : 20 < s.length ∨ 200 < b.length) :
    Calls Tryz.prog 4 #[.string (strOf s), v] w fun e w' => e = .returned (.bool true) ∧ Below w.heap.size w w' := by
  obtain ⟨a, c, rfl, -⟩ := id hv
  have hsz := strOf_size' s
  obtain ⟨st, hst⟩ : ∃ z, strOf s = z := ⟨_, rfl⟩
  obtain ⟨n, hn⟩ : ∃ n, s.length = n := ⟨_, rfl⟩
  rw [hst, hn] at hsz
  rw [hst]
  rw [hn] at h
  obtain ⟨L, hL⟩ : ∃ z, b.length = z := ⟨_, rfl⟩
  rw [hL] at h ⊢
  clear hv hs hst hn hL
  by_cases h1 : 20 < n
  · have g1 : (20 : Int) < (n : Int) := by omega
    clear h
    go_enter Tryz.func4, Tryz.ntmps4
    go_wp2_with (go_at_call 12; go_loud ((with_reducible refine (known_any _).mono ?_); rintro e wk ⟨rfl, hbk⟩; have DK := Lib.hid hbk; clear hbk))
    go_ret
    exact ⟨rfl, DK.out⟩
  · have g1 : ¬ (20 : Int) < (n : Int) := by omega
    have g2 : (200 : Int) < (L : Int) := by omega
    clear h
    go_enter Tryz.func4, Tryz.ntmps4
    go_wp2_with (go_at_call 12; go_loud ((with_reducible refine (known_any _).mono ?_); rintro e wk ⟨rfl, hbk⟩; have DK := Lib.hid hbk; clear hbk))
    go_ret
    exact ⟨rfl, DK.out⟩
set_option maxRecDepth 20000 in
theorem lawImages_no (s : Bs) (v : Value) (b : Bs) (w : World) (hs : s.length ≤ 9223372036854775807) (hv : BytesV w v b) (h1 : s.length ≤ 20) (h2 : b.length ≤ 200) (h : imgOk s b = false) :
    Calls Tryz.prog 4 #[.string (strOf s), v] w fun e w' => e = .returned (.bool true) ∧ Below w.heap.size w w' := by
  obtain ⟨a, c, rfl, -⟩ := id hv
  have OWN := Lib.hid (fun w hv => (Own_any (.slice a b.length c) b w hv (by omega)).mono (R' := fun e w' => ∃ u, e = .returned u ∧ BytesV w' u b ∧ Below w.heap.size w w') (by rintro e w' ⟨u, h1, h2, h3⟩; exact ⟨u, h1, BytesV.of_own h2, h3⟩))
  have IMG := Lib.hid (fun v w hv => Image_no s v b w hs hv h)
  have RIM := Lib.hid (fun v w hv => rImage_no s v b w hs hv h)
  have hsz := strOf_size' s
  obtain ⟨st, hst⟩ : ∃ z, strOf s = z := ⟨_, rfl⟩
  obtain ⟨n, hn⟩ : ∃ n, s.length = n := ⟨_, rfl⟩
  rw [hst, hn] at hsz
  rw [hst] at IMG RIM ⊢
  rw [hn] at h1
  have V := Lib.hid hv
  obtain ⟨L, hL⟩ : ∃ z, b.length = z := ⟨_, rfl⟩
  rw [hL] at OWN V h2 ⊢
  have g1 : ¬ (20 : Int) < (n : Int) := by omega
  have g2 : ¬ (200 : Int) < (L : Int) := by omega
  clear hv hs hst hn h1 h2 h
  go_enter Tryz.func4, Tryz.ntmps4
  go_wp2_with (first
    | (go_at_call 16; go_loud (refine (OWN.out w V.out).mono ?_; rintro e w1 ⟨u, rfl, ho, hb⟩; have O1 := Lib.hid ho; have D1 := Lib.hid hb; clear ho hb))
    | (go_at_call 17; go_loud (refine (IMG.out _ w1 (O1.out)).mono ?_; rintro e w2 ⟨rfl, hb⟩; have D2 := Lib.hid (gr_tr D1.out hb); clear hb))
    | (go_at_call 18; go_loud (refine (RIM.out _ w2 (V.out.below D2.out)).mono ?_; rintro e w3 ⟨rfl, hb⟩; have D3 := Lib.hid (gr_tr D2.out hb); clear hb))
    | (go_at_call 12; go_loud ((with_reducible refine (known_any _).mono ?_); rintro e wk ⟨rfl, hbk⟩; have DK := Lib.hid hbk; clear hbk)))
  go_ret
  exact ⟨rfl, gr_tr D3.out DK.out⟩
set_option maxRecDepth 20000 in
set_option maxHeartbeats 1600000 in
theorem lawImages_ok (s : Bs) (v : Value) (b : Bs) (w : World) (hs : s.length ≤ 9223372036854775807) (hv : BytesV w v b) (h1 : s.length ≤ 20) (h2 : b.length ≤ 200) (h : imgOk s b = true) :
    Calls Tryz.prog 4 #[.string (strOf s), v] w fun e w' => e = .returned (.bool true) ∧ Below w.heap.size w w' := by
  obtain ⟨a, c, rfl, -⟩ := id hv
  have OWN := Lib.hid (fun w hv => (Own_any (.slice a b.length c) b w hv (by omega)).mono (R' := fun e w' => ∃ u, e = .returned u ∧ BytesV w' u b ∧ Below w.heap.size w w') (by rintro e w' ⟨u, h1, h2, h3⟩; exact ⟨u, h1, BytesV.of_own h2, h3⟩))
  have IMG := Lib.hid (fun v w hv => (Image_ok s v b w hs hv h).mono (R' := fun e w' => ∃ u, e = .returned (.tuple #[u, .int .i64 0]) ∧ BytesV w' u (imgB s b) ∧ Below w.heap.size w w') (by rintro e w' ⟨u, h1, h2, h3⟩; exact ⟨u, h1, BytesV.of_own h2, h3⟩))
  have RIM := Lib.hid (fun v w hv => rImage_ok s v b w hs hv h)
  have S1 := Lib.hid (fun u v w hu hv => (Same_any u v b b w hu hv).mono (R' := fun e w' => e = .returned (.bool true) ∧ w = w') (by rintro e w' ⟨h1, h2⟩; exact ⟨by rw [h1, beq_self_eq_true], h2⟩))
  have S2 := Lib.hid (fun u v w hu hv => (Same_any u v (imgB s b) (imgB s b) w hu hv).mono (R' := fun e w' => e = .returned (.bool true) ∧ w = w') (by rintro e w' ⟨h1, h2⟩; exact ⟨by rw [h1, beq_self_eq_true], h2⟩))
  obtain ⟨G, hG⟩ : ∃ z, imgB s b = z := ⟨_, rfl⟩
  rw [hG] at IMG RIM S2
  have hsz := strOf_size' s
  obtain ⟨st, hst⟩ : ∃ z, strOf s = z := ⟨_, rfl⟩
  obtain ⟨n, hn⟩ : ∃ n, s.length = n := ⟨_, rfl⟩
  rw [hst, hn] at hsz
  rw [hst] at IMG RIM ⊢
  rw [hn] at h1
  have V := Lib.hid hv
  obtain ⟨L, hL⟩ : ∃ z, b.length = z := ⟨_, rfl⟩
  rw [hL] at OWN V h2 ⊢
  have g1 : ¬ (20 : Int) < (n : Int) := by omega
  have g2 : ¬ (200 : Int) < (L : Int) := by omega
  clear hv hs hst hn h1 h2 h hG
  go_enter Tryz.func4, Tryz.ntmps4
  go_wp2_with (first
    | (go_at_call 16; go_loud (refine (OWN.out w V.out).mono ?_; rintro e w1 ⟨u, rfl, ho, hb⟩; have O1 := Lib.hid (ho); have D1 := Lib.hid hb; clear ho hb))
    | (go_at_call 17; go_loud (refine (IMG.out _ w1 O1.out).mono ?_; rintro e w2 ⟨u2, rfl, ho, hb⟩; have O2 := Lib.hid (ho); have D2 := Lib.hid (gr_tr D1.out hb); have O1b := Lib.hid (O1.out.below hb); clear ho hb))
    | (go_at_call 18; go_loud (refine (RIM.out _ w2 (V.out.below D2.out)).mono ?_; rintro e w3 ⟨u3, rfl, ho, hb⟩; have O3 := Lib.hid ho.bytes; have D3 := Lib.hid (gr_tr D2.out hb); have O1c := Lib.hid (O1b.out.below hb); have O2c := Lib.hid (O2.out.below hb); clear ho hb))
    | (go_at_call 19; go_loud (first
        | (refine (S2.out _ _ _ O2c.out O3.out).mono ?_; rintro e w4 ⟨rfl, rfl⟩)
        | (refine (S1.out _ _ _ O1c.out (V.out.below D3.out)).mono ?_; rintro e w5 ⟨rfl, rfl⟩)))
    | (go_at_call 12; go_loud ((with_reducible refine (known_any _).mono ?_); rintro e wk ⟨rfl, hbk⟩; have DK := Lib.hid hbk; clear hbk)))
  go_ret
  exact ⟨rfl, gr_tr D3.out DK.out⟩
theorem lawImages (s : Bs) (v : Value) (b : Bs) (w : World) (hs : s.length ≤ 9223372036854775807) (hv : BytesV w v b) :
    Calls Tryz.prog 4 #[.string (strOf s), v] w fun e w' => e = .returned (.bool true) ∧ Below w.heap.size w w' := by
  by_cases h : 20 < s.length ∨ 200 < b.length
  · exact lawImages_far s v b w hs hv h
  · cases hi : imgOk s b
    · exact lawImages_no s v b w hs hv (by omega) (by omega) hi
    · exact lawImages_ok s v b w hs hv (by omega) (by omega) hi
end Go.Proofs.YtabfmhlhdebcpaaGreatDoor
