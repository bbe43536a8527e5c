/- The walks of Go's slices.Grow (of nothing) and slices.Concat at bytes. -/
import Derived.Test.YtjcgdenkmmgmfaaGreatDoorSlices
namespace Go.Proofs.YtjcgdenkmmgmfaaGreatDoor
open Go.RowKit
set_option linter.unusedVariables false
set_option linter.unusedSimpArgs false

theorem flat_take (ls : List (List (BitVec 8))) (k : Nat) (l : List (BitVec 8)) (h : ls[k]? = some l) : (ls.take (k + 1)).flatten = (ls.take k).flatten ++ l := by
  obtain ⟨hk, rfl⟩ := List.getElem?_eq_some_iff.1 h
  rw [List.take_succ_eq_append_getElem hk, List.flatten_append]; simp
theorem flat_le (ls : List (List (BitVec 8))) (k : Nat) : (ls.take k).flatten.length ≤ ls.flatten.length := by
  have : ls.flatten = (ls.take k).flatten ++ (ls.drop k).flatten := by rw [← List.flatten_append, List.take_append_drop]
  rw [this, List.length_append]; omega
/-- How many bytes there are in the first k parts. -/
def total (ls : List (List (BitVec 8))) (k : Nat) : Nat := (ls.take k).flatten.length
theorem total_step (ls : List (List (BitVec 8))) (k : Nat) (l : List (BitVec 8)) (h : ls[k]? = some l) : total ls (k + 1) = total ls k + l.length := by
  unfold total; rw [flat_take ls k l h, List.length_append]
theorem total_le (ls : List (List (BitVec 8))) (k : Nat) : total ls k ≤ ls.flatten.length := flat_le ls k
theorem total_all (ls : List (List (BitVec 8))) : total ls ls.length = ls.flatten.length := by unfold total; rw [List.take_length]

theorem infoU8 : ∃ i, Tryz.prog.info? 5 = some i ∧ i.zero = some (.int .u8 0) ∧ i.size = 1 ∧ i.bytes = 1 := info_parts (by kernel_rfl)
theorem grow_run (n : Nat) (w : World) (h0 : 0 < n) (hn : n ≤ 140737488355328) : ∃ C w1, (w1.ownsRow w.heap.size 5 1 (.slice (some ⟨w.heap.size, 0, none⟩) 0 C) 0 [] ∧ Below w.heap.size w w1) ∧
    (Builtin.append_ #[45, 3] 45 #[.slice none 0 0, .int .i64 n]).run Tryz.prog w = .ok (.slice (some ⟨w.heap.size, 0, none⟩) n C) w1 := by
  obtain ⟨i, hi, hz, hs, hb⟩ := infoU8
  have hge := grownCap_ge w n 0 5
  have hle := grownCap_le_maxLen w n 0 5 (by unfold maxLen; omega)
  refine ⟨_, _, ?_, Lib.run_append_nil_zeros (P := Tryz.prog) w 45 3 45 5 i (.int .u8 0) .i64 .i64 Tryz.underlying45 Tryz.underlying3 hi hz n (by omega) (by omega) (by omega) (by rw [hb]; omega)⟩
  refine ⟨⟨by simp, .inr ⟨w.heap.size, _, _, rfl, Nat.le_refl _, heap_alloc_new w.drew _, Nat.zero_le _, hle, ?_, by simp⟩⟩, gr_tr (gr_drew w) (gr_alloc _ _)⟩
  simp [size_zeroCells, Value.cells]; omega
theorem Grow_nil (n : Nat) (w : World) (hn : n ≤ 140737488355328) :
    Calls Tryz.prog 57 #[.slice none 0 0, .int .i64 n] w fun e w' => ∃ u, e = .returned u ∧ w'.ownsRow w.heap.size 5 1 u 0 [] ∧ Below w.heap.size w w' := by
  by_cases h0 : n = 0
  · subst h0
    go_enter Tryz.func57, Tryz.ntmps57
    go_wp2
    go_ret
    exact ⟨_, rfl, World.ownsRow_nil _ _ _ _, Below.refl _ _⟩
  · have hn0 : 0 < n := by omega
    clear h0
    have hsl := fun (w : World) C w' => run_slice_front Tryz.underlying45 (by kernel_rfl) (some ⟨w.heap.size, 0, none⟩) n C 0 (Nat.zero_le _) w'
    simp only [Int.natCast_zero] at hsl
    go_enter Tryz.func57, Tryz.ntmps57
    go_wp2_with (first
      | (with_reducible show wpList _ _ _ _ _ _; refine cap_law rfl _ Tryz.underlying45 rfl rfl ?_)
      | (at_builtin; obtain ⟨C, w1, hfin, hrun⟩ := grow_run n w hn0 hn; refine Lib.wpList_append_run _ rfl _ _ _ _ rfl _ _ rfl rfl _ _ hrun ?_; clear hrun; have HF := Lib.hid hfin; clear hfin))
    go_ret
    exact ⟨_, rfl, HF.out.1, HF.out.2⟩

set_option maxHeartbeats 400000 in
theorem Concat_any (v : Value) (ls : List (List (BitVec 8))) (w : World) (hv : PartsV w v ls) (hs : ls.flatten.length ≤ 140737488355328) :
    Calls Tryz.prog 37 #[v] w fun e w' => ∃ u, e = .returned u ∧ w'.ownsRow w.heap.size 5 1 u ls.flatten.length (by8 ls.flatten) ∧ Below w.heap.size w w' := by
  have HT := Lib.hid (total_all ls)
  have HV := Lib.hid hv
  have hle := total_le ls
  have HLE := Lib.hid hle; clear hle
  obtain ⟨T, hT⟩ : ∃ T, T = ls.flatten.length := ⟨_, rfl⟩
  rw [← hT] at hs
  have HTE := Lib.hid hT; clear hT
  obtain ⟨a, c, vs, rfl, hn, hc, hm, hrow, hl, hparts⟩ := hv
  have HROW := Lib.hid hrow; clear hrow
  have HL := Lib.hid hl; clear hl
  have HP := Lib.hid hparts; clear hparts
  have hm' : ls.length ≤ 9223372036854775807 := by omega
  go_enter Tryz.func37, Tryz.ntmps37
  go_wp2
  go_loop [3, 11] (fun s i => ∃ k : Nat, k ≤ ls.length ∧ i = .int .i64 k ∧ s = .int .i64 (total ls k)) (fun _ i => ls.length - (intOf i).toNat)
  case atStart => exact ⟨0, by omega, rfl, rfl⟩
  case round =>
    obtain ⟨k, hk, rfl, rfl⟩ := hrel
    by_cases hlt : k < ls.length
    · obtain ⟨l, hlk⟩ : ∃ l, ls[k]? = some l := ⟨ls[k], List.getElem?_eq_getElem hlt⟩
      obtain ⟨x, hx, hbx⟩ := HP.out k l hlk
      obtain ⟨b, o, rfl, hcell⟩ := HROW.out.at hx
      obtain ⟨a2, c2, rfl, hn2, hlc2, hc2, hr2⟩ := hbx
      have ST := Lib.hid (total_step ls k l hlk)
      have hb : total ls k + l.length ≤ T := by rw [HTE.out, ← ST.out]; exact HLE.out _
      clear hr2 hx hlk
      go_wp2
      go_round
      case rel => exact ⟨k + 1, by omega, by go_num, by rw [ST.out]; go_num⟩
      case measure => simp [intOf]; omega
    · obtain rfl : k = ls.length := by omega
      have hTT : total ls ls.length = T := by rw [HTE.out]; exact HT.out
      rw [hTT]
      have HTT := Lib.hid hTT; clear hTT
      go_wp2_with fail
      refine (Grow_nil T _ (by omega)).mono ?_
      rintro e w1 ⟨u, rfl, hown, hb⟩
      have HO := Lib.hid hown; clear hown
      have HB := Lib.hid hb; clear hb
      go_wp2_with fail
      go_loopw [6, 27] (fun u i wr => ∃ k : Nat, k ≤ ls.length ∧ i = .int .i64 k ∧ wr.ownsRow w.heap.size 5 1 u (total ls k) (by8 (ls.take k).flatten) ∧ Below w.heap.size w wr) (fun _ i _ => ls.length - (intOf i).toNat)
      case atStart => exact ⟨0, by omega, rfl, HO.out, HB.out⟩
      case round =>
        obtain ⟨k, hk, rfl, hown, hb⟩ := hrel
        have HO2 := Lib.hid hown; clear hown
        have HB2 := Lib.hid hb; clear hb
        by_cases hlt : k < ls.length
        · obtain ⟨l, hlk⟩ : ∃ l, ls[k]? = some l := ⟨ls[k], List.getElem?_eq_getElem hlt⟩
          obtain ⟨x, hx, hbx⟩ := HP.out k l hlk
          obtain ⟨b, o, rfl, hcell⟩ := (HROW.out.below HB2.out).at hx
          obtain ⟨a2, c2, rfl, hn2, hlc2, hc2, hr2⟩ := hbx.below HB2.out
          have HR2 := Lib.hid hr2; clear hr2
          have HN2 := Lib.hid hn2; clear hn2
          have ST := Lib.hid (total_step ls k l hlk)
          have FT := Lib.hid (flat_take ls k l hlk)
          have hb : total ls k + l.length ≤ T := by rw [HTE.out, ← ST.out]; exact HLE.out _
          clear hx hbx hlk
          go_wp2_with (at_builtin; refine app_law bytesOk rfl _ _ rfl w.heap.size _ _ _ rfl HO2.out a2 l.length c2 (by8 l) rfl HN2.out hlc2 HR2.out (by simp) (by8_one l) (by omega) (by omega) HB2.out.size ?_; intro v' w2 hown1 hgrow1 _; have HO3 := Lib.hid hown1; clear hown1; have HG3 := Lib.hid hgrow1; clear hgrow1)
          go_roundw
          case rel => exact ⟨k + 1, by omega, by go_num, by rw [FT.out, ST.out, by8_append]; exact HO3.out, HB2.out.grown HG3.out HB2.out.size (fun k hk => ((HO2.out.lt) k hk).1)⟩
          case measure => simp [intOf]; omega
        · obtain rfl : k = ls.length := by omega
          go_wp2
          go_ret
          exact ⟨_, rfl, by have := HO2.out; rw [List.take_length, HTT.out] at this; rw [← HTE.out]; exact this, HB2.out⟩
end Go.Proofs.YtjcgdenkmmgmfaaGreatDoor
