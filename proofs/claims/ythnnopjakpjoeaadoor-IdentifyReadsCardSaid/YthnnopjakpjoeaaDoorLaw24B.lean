/- The law IdentifyControllers: short, and the walk. -/
import Derived.Test.YthnnopjakpjoeaaDoorLaw24A
namespace Go.Proofs.YthnnopjakpjoeaaDoor
open Go.RowKit Idn
set_option linter.unusedVariables false
set_option linter.unusedSimpArgs false
namespace Idn
def shortC (x : Ctl) : Bool := decide (x.serial.length ≤ 300 ∧ x.model.length ≤ 300 ∧ x.revision.length ≤ 300 ∧ x.name.length ≤ 300)
end Idn
set_option maxHeartbeats 3200000 in
set_option maxRecDepth 100000 in
theorem short_at (x : Ctl) (b : Bool) (w : World) (hb : shortC x = b) :
    Calls Tryd.prog 19 #[.agg (Ctl.cells x).toArray] w fun e w' => e = .returned (.bool b) ∧ Below w.heap.size w w' := by
  obtain ⟨n1, h1⟩ : ∃ n, x.serial.length = n := ⟨_, rfl⟩
  obtain ⟨n2, h2⟩ : ∃ n, x.model.length = n := ⟨_, rfl⟩
  obtain ⟨n3, h3⟩ : ∃ n, x.revision.length = n := ⟨_, rfl⟩
  obtain ⟨n4, h4⟩ : ∃ n, x.name.length = n := ⟨_, rfl⟩
  unfold shortC at hb
  rw [h1, h2, h3, h4] at hb
  have s1 : (strOf x.serial).size = n1 := by rw [← h1]; simp [strOf, ByteArray.size]
  have s2 : (strOf x.model).size = n2 := by rw [← h2]; simp [strOf, ByteArray.size]
  have s3 : (strOf x.revision).size = n3 := by rw [← h3]; simp [strOf, ByteArray.size]
  have s4 : (strOf x.name).size = n4 := by rw [← h4]; simp [strOf, ByteArray.size]
  clear h1 h2 h3 h4
  obtain ⟨W, hW⟩ : ∃ W, W = w.alloc (.cells (Ctl.cells x).toArray 38) := ⟨_, rfl⟩
  have BXn : W.heap[w.heap.size]? = some (.cells (Ctl.cells x).toArray 38 (0, 0)) := by rw [hW]; exact heap_alloc_new w _
  have D := Lib.hid (show Below w.heap.size w W by rw [hW]; exact gr_alloc w _)
  obtain ⟨t1, e1⟩ : ∃ t, strOf x.serial = t := ⟨_, rfl⟩
  obtain ⟨t2, e2⟩ : ∃ t, strOf x.model = t := ⟨_, rfl⟩
  obtain ⟨t3, e3⟩ : ∃ t, strOf x.revision = t := ⟨_, rfl⟩
  obtain ⟨t4, e4⟩ : ∃ t, strOf x.name = t := ⟨_, rfl⟩
  have c22 : W.cell? ⟨w.heap.size, 22, none⟩ = some (.string t1) := (cell_of_row _ _ _ _ _ _ BXn).trans (by rw [← e1]; rfl)
  have c23 : W.cell? ⟨w.heap.size, 23, none⟩ = some (.string t2) := (cell_of_row _ _ _ _ _ _ BXn).trans (by rw [← e2]; rfl)
  have c24 : W.cell? ⟨w.heap.size, 24, none⟩ = some (.string t3) := (cell_of_row _ _ _ _ _ _ BXn).trans (by rw [← e3]; rfl)
  have c25 : W.cell? ⟨w.heap.size, 25, none⟩ = some (.string t4) := (cell_of_row _ _ _ _ _ _ BXn).trans (by rw [← e4]; rfl)
  rw [e1] at s1; rw [e2] at s2; rw [e3] at s3; rw [e4] at s4
  have HW := Lib.hid hW; have HB := Lib.hid hb; clear hW hb BXn e1 e2 e3 e4
  go_enter Tryd.func19, Tryd.ntmps19
  go_upto_region 1 with (fail)
  rw [← HW.out]
  by_cases p1 : (n1 : Int) ≤ 300
  · by_cases p2 : (n2 : Int) ≤ 300
    · by_cases p3 : (n3 : Int) ≤ 300
      · by_cases p4 : (n4 : Int) ≤ 300
        · go_wp2
          go_ret
          exact ⟨by rw [← HB.out, decide_eq_true (by omega)]; rfl, D.out⟩
        · go_wp2
          go_ret
          exact ⟨by rw [← HB.out, decide_eq_false (by omega)]; rfl, D.out⟩
      · go_wp2
        go_ret
        exact ⟨by rw [← HB.out, decide_eq_false (by omega)]; rfl, D.out⟩
    · go_wp2
      go_ret
      exact ⟨by rw [← HB.out, decide_eq_false (by omega)]; rfl, D.out⟩
  · go_wp2
    go_ret
    exact ⟨by rw [← HB.out, decide_eq_false (by omega)]; rfl, D.out⟩
theorem rEncC_at (x : Ctl) (w : World) (hlen : x.serial.length ≤ 300 ∧ x.model.length ≤ 300 ∧ x.revision.length ≤ 300 ∧ x.name.length ≤ 300) :
    Calls Tryd.prog 21 #[.agg (Ctl.cells x).toArray] w fun e w' => ∃ u, e = .returned (.tuple #[u, .int .i64 (ctlE x)]) ∧ BytesV w' u (ctlR x) ∧ Below w.heap.size w w' := by
  unfold ctlE ctlR
  cases hok : ctlOk x
  · refine (rEncC_no x w hok hlen).mono ?_
    rintro e w' ⟨rfl, h⟩
    exact ⟨_, rfl, BytesV.nil _, h⟩
  · refine (rEncC_ok x w hok hlen).mono ?_
    rintro e w' ⟨g, rfl, h1, h2⟩
    exact ⟨_, rfl, h1.bytes, h2⟩
end Go.Proofs.YthnnopjakpjoeaaDoor
