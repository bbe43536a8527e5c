/- Discovery: texts, names, Valid: the program. Printed by gendsca.py. -/
import Derived.Test.YtjcgdenkmmgmfaaGreatDoorDscMath
import Derived.Test.YtjcgdenkmmgmfaaGreatDoorBase
import Derived.Test.YtjcgdenkmmgmfaaGreatDoorSlices
import Derived.Lib.OthersKept
namespace Go.Proofs.YtjcgdenkmmgmfaaGreatDoor
open Go.RowKit Dsc
set_option linter.unusedVariables false
set_option linter.unusedSimpArgs false
theorem strOf_size (l : List (BitVec 8)) : (strOf l).size = l.length := by
  unfold strOf
  show (l.map UInt8.ofBitVec).toArray.size = _
  rw [List.size_toArray, List.length_map]
theorem strOf_at (l : List (BitVec 8)) : ∀ (pos : Nat) (x : BitVec 8), l[pos]? = some x → ∀ h : pos < (strOf l).size, ((strOf l)[pos]'h).toNat = x.toNat := by
  intro pos x hx h
  have e : (strOf l)[pos]'h = UInt8.ofBitVec x := by
    have h2 : (strOf l).data[pos]? = some (UInt8.ofBitVec x) := by unfold strOf; rw [List.getElem?_toArray, List.getElem?_map, hx]; rfl
    exact (Array.getElem?_eq_some_iff.1 h2).2
  rw [e]; rfl
theorem all_take {α : Type} (p : α → Bool) (l : List α) (k : Nat) (x : α) (h : l[k]? = some x) : (l.take (k + 1)).all p = ((l.take k).all p && p x) := by
  obtain ⟨h1, rfl⟩ := List.getElem?_eq_some_iff.1 h
  rw [List.take_succ_eq_append_getElem h1, List.all_append]; simp
theorem tx_pred (x : BitVec 8) (r : Int) (b : Bool) (w : World) (h0 : 0 ≤ r) (h1 : r ≤ 2147483647) (hb : (!(decide (32 ≤ r) && decide (r ≤ 126))) = b) :
    Calls Tryz.prog 68 #[.int .i32 r] w fun e w' => e = .returned (.bool b) ∧ w = w' := by
  subst hb
  go_enter Tryz.func68, Tryz.ntmps68
  by_cases hc : r < 32
  · have e1 : decide (32 ≤ r) = false := decide_eq_false (by omega)
    go_wp2
    go_ret
    first | exact ⟨rfl, rfl⟩ | exact ⟨by rw [e1]; rfl, rfl⟩
  · have e1 : decide (32 ≤ r) = true := decide_eq_true (by omega)
    by_cases hd : 126 < r
    · have e2 : decide (r ≤ 126) = false := decide_eq_false (by omega)
      go_wp2
      go_ret
      first | exact ⟨rfl, rfl⟩ | exact ⟨by rw [e1, e2]; rfl, rfl⟩
    · have e2 : decide (r ≤ 126) = true := decide_eq_true (by omega)
      go_wp2
      go_ret
      first | exact ⟨rfl, rfl⟩ | exact ⟨by rw [e1, e2]; rfl, rfl⟩
theorem nm_pred (x : BitVec 8) (r : Int) (b : Bool) (w : World) (h0 : 0 ≤ r) (h1 : r ≤ 2147483647) (hb : (!(decide (33 ≤ r) && decide (r ≤ 126))) = b) :
    Calls Tryz.prog 49 #[.int .i32 r] w fun e w' => e = .returned (.bool b) ∧ w = w' := by
  subst hb
  go_enter Tryz.func49, Tryz.ntmps49
  by_cases hc : r < 33
  · have e1 : decide (33 ≤ r) = false := decide_eq_false (by omega)
    go_wp2
    go_ret
    first | exact ⟨rfl, rfl⟩ | exact ⟨by rw [e1]; rfl, rfl⟩
  · have e1 : decide (33 ≤ r) = true := decide_eq_true (by omega)
    by_cases hd : 126 < r
    · have e2 : decide (r ≤ 126) = false := decide_eq_false (by omega)
      go_wp2
      go_ret
      first | exact ⟨rfl, rfl⟩ | exact ⟨by rw [e1, e2]; rfl, rfl⟩
    · have e2 : decide (r ≤ 126) = true := decide_eq_true (by omega)
      go_wp2
      go_ret
      first | exact ⟨rfl, rfl⟩ | exact ⟨by rw [e1, e2]; rfl, rfl⟩
set_option maxHeartbeats 1600000 in
theorem indexTx (l : List (BitVec 8)) (w : World) (hl : l.length ≤ 9223372036854775807) :
    Calls Tryz.prog 66 #[.string (strOf l), .func (.func 68) #[] #[], .bool true] w fun e w' => (∃ j : Int, e = .returned (.int .i64 j) ∧ decide (j < 0) = l.all Wire.plainB) ∧ Below w.heap.size w w' := by
  have hsz : (strOf l).size = l.length := strOf_size l
  obtain ⟨s, hs⟩ : ∃ s, strOf l = s := ⟨_, rfl⟩
  have hat := strOf_at l
  rw [hs] at hsz hat ⊢
  have HSZ := Lib.hid hsz
  clear hs
  go_enter Tryz.func66, Tryz.ntmps66
  go_wp2
  go_loopw [] (fun wr => ∃ pos : Nat, pos ≤ l.length ∧ Hid (wr.heap[w.heap.size]? = some (.stringIter s pos)) ∧ Hid (Below w.heap.size w wr) ∧ Hid ((l.take pos).all Wire.plainB = true)) (fun wr => s.size - wr.iterPos w.heap.size)
  case atStart => exact ⟨0, by omega, Lib.hid (by have := World.iter_heap w s 0; simpa using this), Lib.hid (gr_alloc w _), Lib.hid rfl⟩
  case round =>
    obtain ⟨pos, hp, hit, hb, hA⟩ := hrel
    by_cases hlt : pos < l.length
    · have hps : pos < s.size := by rw [HSZ.out]; exact hlt
      have hnx : ∀ ty, (Instr.next (.pointer (some ⟨w.heap.size, 0, none⟩)) true ty).run Tryz.prog wr = _ := fun ty => Lib.run_next_any_at wr w.heap.size s pos ty hit.out hps
      have hit2 := Lib.hid (Lib.iterAt_heap wr w.heap.size s pos (pos + (Utf8.decode s pos).2) hit.out)
      have hb2 := Lib.hid (Lib.below_iterAt hb.out (k := w.heap.size) (Nat.le_refl _) s (pos + (Utf8.decode s pos).2))
      obtain ⟨x, hx⟩ : ∃ x, l[pos]? = some x := ⟨_, List.getElem?_eq_getElem hlt⟩
      have hv : (s[pos]'hps).toNat = x.toNat := hat pos x hx hps
      have dr : ((Utf8.decode s pos).1 : Int) ≤ 2147483647 := by have := decode_le s pos; omega
      have key : (if x.toNat < 128 then ((Utf8.decode s pos).1 = x.toNat ∧ (Utf8.decode s pos).2 = 1) else (128 ≤ (Utf8.decode s pos).1)) := by
        by_cases ha : x.toNat < 128
        · rw [if_pos ha, decode_ascii s pos hps (by rw [hv]; exact ha), hv]; exact ⟨rfl, rfl⟩
        · rw [if_neg ha]; exact (decode_high s pos hps (by rw [hv]; omega)).1
      obtain ⟨rn, hrn⟩ : ∃ rn, (Utf8.decode s pos).1 = rn := ⟨_, rfl⟩
      obtain ⟨wd, hwd⟩ : ∃ wd, (Utf8.decode s pos).2 = wd := ⟨_, rfl⟩
      rw [hrn, hwd] at hnx key
      rw [hrn] at dr
      rw [hwd] at hit2 hb2
      have HK := Lib.hid key
      have HX := Lib.hid hx
      have HAT := Lib.hid (all_take Wire.plainB l pos x hx)
      obtain ⟨W2, hW2⟩ : ∃ W2, wr.iterAt w.heap.size s (pos + wd) = W2 := ⟨_, rfl⟩
      rw [hW2] at hnx hit2 hb2
      have hr0 : (0 : Int) ≤ (rn : Int) := by omega
      clear hat hv key hx hrn hwd hW2
      by_cases hin : 33 ≤ x.toNat + 1 ∧ x.toNat ≤ 126
      · have hk := HK.out
        rw [if_pos (by omega)] at hk
        obtain ⟨rfl, rfl⟩ := hk
        have hpx : Wire.plainB x = true := by unfold Wire.plainB; rw [decide_eq_true (by unfold uv; omega : (32 : Int) ≤ uv x), decide_eq_true (by unfold uv; omega : uv x ≤ 126)]; rfl
        have hres : (!(decide ((32 : Int) ≤ (x.toNat : Int)) && decide ((x.toNat : Int) ≤ 126))) = false := by rw [decide_eq_true (by omega), decide_eq_true (by omega)]; rfl
        have HR := Lib.hid hres
        have HP := Lib.hid (show (l.take (pos + 1)).all Wire.plainB = true by rw [HAT.out, hA.out, hpx]; rfl)
        clear hpx hres
        go_wp2_with (go_at_call 68; go_loud (refine (tx_pred x _ false _ hr0 dr HR.out).mono ?_; rintro e w3 ⟨rfl, rfl⟩))
        go_roundw
        case rel => exact ⟨pos + 1, by omega, hit2, hb2, HP⟩
        case measure => simp only [World.iterPos, hit2.out, hit.out]; omega
      · have hpx : Wire.plainB x = false := by
          unfold Wire.plainB
          by_cases h33 : 33 ≤ x.toNat + 1
          · rw [decide_eq_false (by unfold uv; omega : ¬ uv x ≤ 126), Bool.and_false]
          · rw [decide_eq_false (by unfold uv; omega : ¬ (32 : Int) ≤ uv x), Bool.false_and]
        have hres : (!(decide ((32 : Int) ≤ (rn : Int)) && decide ((rn : Int) ≤ 126))) = true := by
          have hk := HK.out
          by_cases ha : x.toNat < 128
          · rw [if_pos ha] at hk
            obtain ⟨rfl, _⟩ := hk
            by_cases h33 : 33 ≤ x.toNat + 1
            · rw [decide_eq_false (by omega : ¬ (x.toNat : Int) ≤ 126), Bool.and_false]; rfl
            · rw [decide_eq_false (by omega : ¬ (32 : Int) ≤ (x.toNat : Int)), Bool.false_and]; rfl
          · rw [if_neg ha] at hk
            rw [decide_eq_false (by omega : ¬ (rn : Int) ≤ 126), Bool.and_false]; rfl
        have HR := Lib.hid hres
        have HP := Lib.hid (show l.all Wire.plainB = false by
          rw [List.all_eq_false]
          exact ⟨x, List.mem_of_getElem? HX.out, by rw [hpx]; simp⟩)
        clear hpx hres
        go_wp2_with (go_at_call 68; go_loud (refine (tx_pred x _ true _ hr0 dr HR.out).mono ?_; rintro e w3 ⟨rfl, rfl⟩))
        go_ret
        exact ⟨⟨_, rfl, by rw [HP.out, decide_eq_false (by omega)]⟩, hb2.out⟩
    · obtain rfl : pos = l.length := by omega
      have hnx : ∀ ty, (Instr.next (.pointer (some ⟨w.heap.size, 0, none⟩)) true ty).run Tryz.prog wr = _ := fun ty => Lib.run_next_end_at wr w.heap.size s l.length ty hit.out (by rw [HSZ.out]; omega)
      have HP := Lib.hid (show l.all Wire.plainB = true by have := hA.out; rwa [List.take_length] at this)
      go_wp2
      go_ret
      exact ⟨⟨-1, rfl, by rw [HP.out]; rfl⟩, hb.out⟩
theorem IndexTx (l : List (BitVec 8)) (w : World) (hl : l.length ≤ 9223372036854775807) :
    Calls Tryz.prog 48 #[.string (strOf l), .func (.func 68) #[] #[]] w fun e w' => (∃ j : Int, e = .returned (.int .i64 j) ∧ decide (j < 0) = l.all Wire.plainB) ∧ Below w.heap.size w w' := by
  go_enter Tryz.func48, Tryz.ntmps48
  go_wp2_with (go_at_call 66; go_loud (refine (indexTx l _ hl).mono ?_; rintro e w1 ⟨⟨j, rfl, hj⟩, hb⟩; have HJ := Lib.hid hj; have HB := Lib.hid hb; clear hj hb))
  go_ret
  exact ⟨⟨_, rfl, HJ.out⟩, HB.out⟩
set_option maxHeartbeats 1600000 in
theorem indexNm (l : List (BitVec 8)) (w : World) (hl : l.length ≤ 9223372036854775807) :
    Calls Tryz.prog 66 #[.string (strOf l), .func (.func 49) #[] #[], .bool true] w fun e w' => (∃ j : Int, e = .returned (.int .i64 j) ∧ decide (j < 0) = l.all inN) ∧ Below w.heap.size w w' := by
  have hsz : (strOf l).size = l.length := strOf_size l
  obtain ⟨s, hs⟩ : ∃ s, strOf l = s := ⟨_, rfl⟩
  have hat := strOf_at l
  rw [hs] at hsz hat ⊢
  have HSZ := Lib.hid hsz
  clear hs
  go_enter Tryz.func66, Tryz.ntmps66
  go_wp2
  go_loopw [] (fun wr => ∃ pos : Nat, pos ≤ l.length ∧ Hid (wr.heap[w.heap.size]? = some (.stringIter s pos)) ∧ Hid (Below w.heap.size w wr) ∧ Hid ((l.take pos).all inN = true)) (fun wr => s.size - wr.iterPos w.heap.size)
  case atStart => exact ⟨0, by omega, Lib.hid (by have := World.iter_heap w s 0; simpa using this), Lib.hid (gr_alloc w _), Lib.hid rfl⟩
  case round =>
    obtain ⟨pos, hp, hit, hb, hA⟩ := hrel
    by_cases hlt : pos < l.length
    · have hps : pos < s.size := by rw [HSZ.out]; exact hlt
      have hnx : ∀ ty, (Instr.next (.pointer (some ⟨w.heap.size, 0, none⟩)) true ty).run Tryz.prog wr = _ := fun ty => Lib.run_next_any_at wr w.heap.size s pos ty hit.out hps
      have hit2 := Lib.hid (Lib.iterAt_heap wr w.heap.size s pos (pos + (Utf8.decode s pos).2) hit.out)
      have hb2 := Lib.hid (Lib.below_iterAt hb.out (k := w.heap.size) (Nat.le_refl _) s (pos + (Utf8.decode s pos).2))
      obtain ⟨x, hx⟩ : ∃ x, l[pos]? = some x := ⟨_, List.getElem?_eq_getElem hlt⟩
      have hv : (s[pos]'hps).toNat = x.toNat := hat pos x hx hps
      have dr : ((Utf8.decode s pos).1 : Int) ≤ 2147483647 := by have := decode_le s pos; omega
      have key : (if x.toNat < 128 then ((Utf8.decode s pos).1 = x.toNat ∧ (Utf8.decode s pos).2 = 1) else (128 ≤ (Utf8.decode s pos).1)) := by
        by_cases ha : x.toNat < 128
        · rw [if_pos ha, decode_ascii s pos hps (by rw [hv]; exact ha), hv]; exact ⟨rfl, rfl⟩
        · rw [if_neg ha]; exact (decode_high s pos hps (by rw [hv]; omega)).1
      obtain ⟨rn, hrn⟩ : ∃ rn, (Utf8.decode s pos).1 = rn := ⟨_, rfl⟩
      obtain ⟨wd, hwd⟩ : ∃ wd, (Utf8.decode s pos).2 = wd := ⟨_, rfl⟩
      rw [hrn, hwd] at hnx key
      rw [hrn] at dr
      rw [hwd] at hit2 hb2
      have HK := Lib.hid key
      have HX := Lib.hid hx
      have HAT := Lib.hid (all_take inN l pos x hx)
      obtain ⟨W2, hW2⟩ : ∃ W2, wr.iterAt w.heap.size s (pos + wd) = W2 := ⟨_, rfl⟩
      rw [hW2] at hnx hit2 hb2
      have hr0 : (0 : Int) ≤ (rn : Int) := by omega
      clear hat hv key hx hrn hwd hW2
      by_cases hin : 33 ≤ x.toNat + 0 ∧ x.toNat ≤ 126
      · have hk := HK.out
        rw [if_pos (by omega)] at hk
        obtain ⟨rfl, rfl⟩ := hk
        have hpx : inN x = true := by unfold inN; rw [decide_eq_true (by unfold uv; omega : (33 : Int) ≤ uv x), decide_eq_true (by unfold uv; omega : uv x ≤ 126)]; rfl
        have hres : (!(decide ((33 : Int) ≤ (x.toNat : Int)) && decide ((x.toNat : Int) ≤ 126))) = false := by rw [decide_eq_true (by omega), decide_eq_true (by omega)]; rfl
        have HR := Lib.hid hres
        have HP := Lib.hid (show (l.take (pos + 1)).all inN = true by rw [HAT.out, hA.out, hpx]; rfl)
        clear hpx hres
        go_wp2_with (go_at_call 49; go_loud (refine (nm_pred x _ false _ hr0 dr HR.out).mono ?_; rintro e w3 ⟨rfl, rfl⟩))
        go_roundw
        case rel => exact ⟨pos + 1, by omega, hit2, hb2, HP⟩
        case measure => simp only [World.iterPos, hit2.out, hit.out]; omega
      · have hpx : inN x = false := by
          unfold inN
          by_cases h33 : 33 ≤ x.toNat + 0
          · rw [decide_eq_false (by unfold uv; omega : ¬ uv x ≤ 126), Bool.and_false]
          · rw [decide_eq_false (by unfold uv; omega : ¬ (33 : Int) ≤ uv x), Bool.false_and]
        have hres : (!(decide ((33 : Int) ≤ (rn : Int)) && decide ((rn : Int) ≤ 126))) = true := by
          have hk := HK.out
          by_cases ha : x.toNat < 128
          · rw [if_pos ha] at hk
            obtain ⟨rfl, _⟩ := hk
            by_cases h33 : 33 ≤ x.toNat + 0
            · rw [decide_eq_false (by omega : ¬ (x.toNat : Int) ≤ 126), Bool.and_false]; rfl
            · rw [decide_eq_false (by omega : ¬ (33 : Int) ≤ (x.toNat : Int)), Bool.false_and]; rfl
          · rw [if_neg ha] at hk
            rw [decide_eq_false (by omega : ¬ (rn : Int) ≤ 126), Bool.and_false]; rfl
        have HR := Lib.hid hres
        have HP := Lib.hid (show l.all inN = false by
          rw [List.all_eq_false]
          exact ⟨x, List.mem_of_getElem? HX.out, by rw [hpx]; simp⟩)
        clear hpx hres
        go_wp2_with (go_at_call 49; go_loud (refine (nm_pred x _ true _ hr0 dr HR.out).mono ?_; rintro e w3 ⟨rfl, rfl⟩))
        go_ret
        exact ⟨⟨_, rfl, by rw [HP.out, decide_eq_false (by omega)]⟩, hb2.out⟩
    · obtain rfl : pos = l.length := by omega
      have hnx : ∀ ty, (Instr.next (.pointer (some ⟨w.heap.size, 0, none⟩)) true ty).run Tryz.prog wr = _ := fun ty => Lib.run_next_end_at wr w.heap.size s l.length ty hit.out (by rw [HSZ.out]; omega)
      have HP := Lib.hid (show l.all inN = true by have := hA.out; rwa [List.take_length] at this)
      go_wp2
      go_ret
      exact ⟨⟨-1, rfl, by rw [HP.out]; rfl⟩, hb.out⟩
theorem IndexNm (l : List (BitVec 8)) (w : World) (hl : l.length ≤ 9223372036854775807) :
    Calls Tryz.prog 48 #[.string (strOf l), .func (.func 49) #[] #[]] w fun e w' => (∃ j : Int, e = .returned (.int .i64 j) ∧ decide (j < 0) = l.all inN) ∧ Below w.heap.size w w' := by
  go_enter Tryz.func48, Tryz.ntmps48
  go_wp2_with (go_at_call 66; go_loud (refine (indexNm l _ hl).mono ?_; rintro e w1 ⟨⟨j, rfl, hj⟩, hb⟩; have HJ := Lib.hid hj; have HB := Lib.hid hb; clear hj hb))
  go_ret
  exact ⟨⟨_, rfl, HJ.out⟩, HB.out⟩
end Go.Proofs.YtjcgdenkmmgmfaaGreatDoor
