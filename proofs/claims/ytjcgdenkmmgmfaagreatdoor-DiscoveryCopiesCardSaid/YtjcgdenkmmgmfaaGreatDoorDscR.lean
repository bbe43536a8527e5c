/- Discovery: slices.Chunk over bytes. Printed by gendscr.py. -/
import Derived.Test.YtjcgdenkmmgmfaaGreatDoorRfJoin
import Derived.Test.YtjcgdenkmmgmfaaGreatDoorDscP
import Derived.Test.YtjcgdenkmmgmfaaGreatDoorMidL
namespace Go.Proofs.YtjcgdenkmmgmfaaGreatDoor
open Go.RowKit Go.Shelf Dsc
set_option linter.unusedVariables false
set_option linter.unusedSimpArgs false
attribute [local go_sem] Oper.semAt_some
/-- What a round over chunks keeps: the two variables of the iterator. -/
def ChKp (B1 B2 : Nat) (W W' : World) : Prop := W'.heap[B1]? = W.heap[B1]? ∧ W'.heap[B2]? = W.heap[B2]?
set_option maxHeartbeats 6400000 in
set_option maxRecDepth 20000 in
theorem Chunk_stops (n : Nat) (hn : 1 ≤ n) (m : Nat) (v : Value) (sl : Nat → Value) (B1 B2 : Nat) (w : World) (hb1 : B1 < w.heap.size) (hb2 : B2 < w.heap.size) (h1 : w.heap[B1]? = some (.cells #[v] 45 (0, 0))) (h2 : w.heap[B2]? = some (.cells #[.int .i64 1024] 3 (0, 0)))
    (hv : ∃ a c, v = .slice a (1024 * m) c) (hm : m ≤ 1000)
    (hsl : ∀ k, k < m → ∀ w', (Instr.slice 45 v (some (.int .i64 ((1024 * k : Nat) : Int))) (some (.int .i64 ((1024 * k + 1024 : Nat) : Int))) (some (.int .i64 ((1024 * k + 1024 : Nat) : Int)))).run Tryz.prog w' = .ok (sl k) w')
    (hcut : ∀ k, k < m → ∃ a c, ∀ w', (Instr.slice 45 v (some (.int .i64 ((1024 * k : Nat) : Int))) none none).run Tryz.prog w' = .ok (.slice a (1024 * m - 1024 * k) c) w') :
    SeqStopsK Fence.wide n Tryz.prog 61 #[.pointer (some ⟨B1, 0, none⟩), .pointer (some ⟨B2, 0, none⟩)] (fun i : Fin m => #[sl i.val]) (ChKp B1 B2) (fun xs => xs.map (·.val) = List.range m) (fun pre => pre.map (·.val) = List.range pre.length ∧ 0 < pre.length) m w := fun l J Jx W hW hJ hJx hY h0 => by
  have X1 := Lib.hid ((hW.block B1 hb1).trans h1)
  have X2 := Lib.hid ((hW.block B2 hb2).trans h2)
  have HJ := Lib.hid hJ; have HY := Lib.hid hY; have H0 := Lib.hid h0
  have HSL := Lib.hid hsl; have HCUT := Lib.hid hcut
  obtain ⟨a, c, rfl⟩ := hv
  refine callsIn_wide.2 ?_
  clear hW hJ hJx hY h0 h1 h2 hsl hcut
  go_enter Tryz.func61, Tryz.ntmps61
  go_wp2
  go_loopw [4, 5] (fun i _ wr => ∃ k : Nat, k ≤ m ∧ i = .int .i64 ((1024 * k : Nat) : Int) ∧ J (Rf.first m k) wr ∧ wr.heap[B1]? = some (.cells #[.slice a (1024 * m) c] 45 (0, 0)) ∧ wr.heap[B2]? = some (.cells #[.int .i64 1024] 3 (0, 0))) (fun i _ _ => 1024 * m + 1 - (intOf i).toNat)
  case atStart => exact ⟨0, by omega, rfl, H0.out, X1.out, X2.out⟩
  case round =>
    obtain ⟨k, hk, rfl, hJW, y1, y2⟩ := hrel
    have JW := Lib.hid hJW; have Y1 := Lib.hid y1; have Y2 := Lib.hid y2
    have q1 : wr.cell? ⟨B1, 0, none⟩ = some (.slice a (1024 * m) c) := (cell_of_row _ _ 0 _ _ _ y1).trans rfl
    have q2 : wr.cell? ⟨B2, 0, none⟩ = some (.int .i64 1024) := (cell_of_row _ _ 0 _ _ _ y2).trans rfl
    clear hJW y1 y2
    by_cases hlt : k < m
    · have hs1 := HSL.out k hlt
      obtain ⟨a2, c2, hs2⟩ := HCUT.out k hlt
      obtain ⟨rm, hrm⟩ : ∃ rm, 1024 * m - 1024 * k = rm := ⟨_, rfl⟩
      rw [hrm] at hs2
      have hmin : min (1024 : Int) (rm : Int) = 1024 := by omega
      have hlt2 : ((1024 * k : Nat) : Int) < ((1024 * m : Nat) : Int) := by omega
      obtain ⟨p, hp⟩ : ∃ p, 1024 * k = p := ⟨_, rfl⟩
      have hp2 : ((1024 * k + 1024 : Nat) : Int) = (p : Int) + 1024 := by omega
      have hw1 : IntKind.i64.wrap ((p : Int) + 1024) = (p : Int) + 1024 := by rw [IntKind.wrap_i64]; omega
      obtain ⟨M, hM⟩ : ∃ M, 1024 * m = M := ⟨_, rfl⟩
      rw [hp2] at hs1
      rw [hp, hM] at hlt2
      rw [hp] at hs1 hs2 ⊢
      rw [hM] at hs1 hs2 q1 Y1
      have HP := Lib.hid hp; have HM := Lib.hid hM
      have hpb : p ≤ 1024000 := by omega
      have JM := Lib.hid (Rf.first_more m k hlt).symm
      have JL := Lib.hid (Rf.first_len m k (Nat.le_of_lt hlt))
      have JL1 := Lib.hid (Rf.first_len m (k + 1) hlt)
      have JV := Lib.hid (Rf.first_val m (k + 1) hlt)
      have HYM := Lib.hid (fun (W1 : World) (hj : J (Rf.first m k) W1) => HY.out (Rf.first m k) ⟨k, hlt⟩ W1 hj (by rw [JL.out]; exact hlt))
      clear hrm hp hM hp2
      go_upto_region 3 with fail
      have k1 : ∀ y : KeepT nowhere wr, y.val.cell? ⟨B1, 0, none⟩ = some (.slice a M c) := fun y => y.cell q1 id
      have k2 : ∀ y : KeepT nowhere wr, y.val.cell? ⟨B2, 0, none⟩ = some (.int .i64 1024) := fun y => y.cell q2 id
      refine wp_region_planW nowhere [(true, 0), (true, 1), (true, 2), (true, 3), (true, 4), (true, 5), (true, 6)] (by kernel_rfl) (by kernel_rfl) (by intro c a d v w h; cases d <;> exact h) ?_
      intro W1 K1 C1
      repeat (refine wpS_firm rfl (fun K hK => ?_); simp only [Keep]; go_simp; refine hK _ ?_; clear hK K)
      unfold wpS
      have J1 := Lib.hid (HJ.out _ _ _ none JW.out (grown_of_below C1.out) (fun r e => by cases e))
      clear k1 k2 q1 q2
      have Z1 := Lib.hid (blk_below Y1.out C1.out)
      have Z2 := Lib.hid (blk_below Y2.out C1.out)
      have q1 : W1.cell? ⟨B1, 0, none⟩ = some (.slice a M c) := (cell_of_row _ _ 0 _ _ _ Z1.out).trans rfl
      go_upto_region 4 with fail
      obtain ⟨fn, tmps, assign, body, hy, hR⟩ := HYM.out _ J1.out
      refine (wpIn_wide (n := n)).1 ?_
      gi_wp2
      refine hR.mono ?_
      clear hy hR
      rintro e W3 (⟨rfl, hJ3, hk3⟩ | ⟨rfl, hJx3⟩)
      · have J3 := Lib.hid hJ3
        have T1 := Lib.hid (hk3.1.trans Z1.out); have T2 := Lib.hid (hk3.2.trans Z2.out)
        have q2 : W3.cell? ⟨B2, 0, none⟩ = some (.int .i64 1024) := (cell_of_row _ _ 0 _ _ _ T2.out).trans rfl
        clear hJ3 hk3
        gi_wp2
        go_wp2
        go_roundw
        case rel => exact ⟨k + 1, by omega, by have := HP.out; congr 1; omega, by rw [← JM.out]; exact J3.out, by have := T1.out; rw [HM.out]; exact this, T2.out⟩
        case measure =>
          have h1 := HP.out
          have h2 := HM.out
          simp only [intOf]
          omega
      · have J3 := Lib.hid hJx3
        clear hJx3
        gi_wp2
        go_wp2
        refine bodyPost_ret (results_none rfl _ _ _) rfl ?_
        exact ⟨⟨_, rfl⟩, .inr ⟨_, ⟨by rw [JM.out, JL1.out]; exact JV.out, by rw [JM.out, JL1.out]; omega⟩, J3.out⟩⟩
    · obtain rfl : k = m := by omega
      have hnl : ¬ (((1024 * k : Nat) : Int) < ((1024 * k : Nat) : Int)) := by omega
      go_wp2
      go_end0
      exact ⟨⟨_, rfl⟩, .inl ⟨_, Rf.first_val _ _ (Nat.le_refl _), JW.out⟩⟩
theorem Chunk_any (a : Option Addr) (N c : Nat) (w : World) :
    Calls Tryz.prog 43 #[.slice a N c, .int .i64 1024] w fun e w' => e = .returned (.func (.func 61) #[] #[.pointer (some ⟨w.heap.size, 0, none⟩), .pointer (some ⟨w.heap.size + 1, 0, none⟩)]) ∧ w'.heap[w.heap.size]? = some (.cells #[.slice a N c] 45 (0, 0)) ∧ w'.heap[w.heap.size + 1]? = some (.cells #[.int .i64 1024] 3 (0, 0)) ∧ w.heap.size + 1 < w'.heap.size ∧ Below w.heap.size w w' := by
  have h1 := blk_below (heap_alloc_new w (.cells #[.slice a N c] 45)) (gr_alloc (w.alloc (.cells #[.slice a N c] 45)) (.cells #[.int .i64 1024] 3))
  have h2 := heap_alloc_new (w.alloc (.cells #[.slice a N c] 45)) (.cells #[.int .i64 1024] 3)
  rw [World.size_alloc] at h2
  have H1 := Lib.hid h1; have H2 := Lib.hid h2
  clear h1 h2
  go_enter Tryz.func43, Tryz.ntmps43
  go_wp2
  go_ret
  exact ⟨rfl, H1.out, H2.out, by simp, gr_tr (gr_alloc _ _) (gr_alloc _ _)⟩
end Go.Proofs.YtjcgdenkmmgmfaaGreatDoor
