/- Descriptions of pages: the walks of spare.Valid and of the reference's. -/
import Derived.Test.YteicmbapipnbjaaWireD
import Derived.Test.YteicmbapipnbjaaWireG
namespace Go.Proofs.Yteicmbapipnbjaa
open Go.RowKit
set_option linter.unusedVariables false
set_option linter.unusedSimpArgs false
namespace Sp
def bad (q : BitVec 64) (i n : Int) : Bool := decide (uv q < 1) || decide (n < 1) || decide (65535 < n) || decide (i < 0) || decide (n ≤ i)
def data (s : Int) (p : BitVec 64) (n : Int) : Bool := decide (0 ≤ s) && decide (s ≤ 4294967294) && (uv p == 0) && (n == 1)
def delta (s : Int) (q p : BitVec 64) (i : Int) : Bool := (s == 0) && decide (uv p < uv q) && decide (uv (BitVec.ofInt 64 i) < uv (q - p))
def valid (k : BitVec 8) (s : Int) (q p : BitVec 64) (i n : Int) : Bool :=
  if bad q i n then false else if uv k == 1 then data s p n else if uv k == 2 || uv k == 3 then delta s q p i else false
end Sp
set_option maxRecDepth 8000 in
set_option maxHeartbeats 1600000 in
theorem Valid_any (k : BitVec 8) (s : Int) (q p : BitVec 64) (i n : Int) (b : Bool) (w : World) (hb : Sp.valid k s q p i n = b) :
    Calls Try.prog 13 #[.agg #[.int .u8 (uv k), .int .i64 s, .int .u64 (uv q), .int .u64 (uv p), .int .i64 i, .int .i64 n]] w fun e w' => e = .returned (.bool b) ∧ Below w.heap.size w w' := by
  obtain ⟨b1, h1⟩ : ∃ z, decide (uv q < 1) = z := ⟨_, rfl⟩
  obtain ⟨b2, h2⟩ : ∃ z, decide (n < 1) = z := ⟨_, rfl⟩
  obtain ⟨b3, h3⟩ : ∃ z, decide (65535 < n) = z := ⟨_, rfl⟩
  obtain ⟨b4, h4⟩ : ∃ z, decide (i < 0) = z := ⟨_, rfl⟩
  obtain ⟨b5, h5⟩ : ∃ z, decide (n ≤ i) = z := ⟨_, rfl⟩
  obtain ⟨b6, h6⟩ : ∃ z, decide (0 ≤ s) = z := ⟨_, rfl⟩
  obtain ⟨b7, h7⟩ : ∃ z, decide (s ≤ 4294967294) = z := ⟨_, rfl⟩
  obtain ⟨b8, h8⟩ : ∃ z, (uv p == 0) = z := ⟨_, rfl⟩
  obtain ⟨b9, h9⟩ : ∃ z, (n == 1) = z := ⟨_, rfl⟩
  obtain ⟨b10, h10⟩ : ∃ z, (s == 0) = z := ⟨_, rfl⟩
  obtain ⟨b11, h11⟩ : ∃ z, decide (uv p < uv q) = z := ⟨_, rfl⟩
  obtain ⟨b12, h12⟩ : ∃ z, decide (uv (BitVec.ofInt 64 i) < uv (q - p)) = z := ⟨_, rfl⟩
  obtain ⟨k1, hk1⟩ : ∃ z, (uv k == 1) = z := ⟨_, rfl⟩
  obtain ⟨k2, hk2⟩ : ∃ z, (uv k == 2) = z := ⟨_, rfl⟩
  obtain ⟨k3, hk3⟩ : ∃ z, (uv k == 3) = z := ⟨_, rfl⟩
  have hv : b = if (b1 || b2 || b3 || b4 || b5) = true then false else if k1 = true then (b6 && b7 && b8 && b9) else if (k2 || k3) = true then (b10 && b11 && b12) else false := by
    rw [← hb, ← h1, ← h2, ← h3, ← h4, ← h5, ← h6, ← h7, ← h8, ← h9, ← h10, ← h11, ← h12, ← hk1, ← hk2, ← hk3]; rfl
  obtain ⟨r1, hr1⟩ : ∃ z, (b1 || b2 || b3 || b4 || b5) = z := ⟨_, rfl⟩
  obtain ⟨r2, hr2⟩ : ∃ z, (b6 && b7 && b8 && b9) = z := ⟨_, rfl⟩
  obtain ⟨r3, hr3⟩ : ∃ z, (b10 && b11 && b12) = z := ⟨_, rfl⟩
  rw [hr1, hr2, hr3] at hv
  have h3' : decide (n > 65535) = b3 := h3
  have h5' : decide (i ≥ n) = b5 := h5
  have h6' : decide (s ≥ 0) = b6 := h6
  have H1 := Lib.hid h1; clear h1
  have H2 := Lib.hid h2; clear h2
  have H3 := Lib.hid h3; clear h3
  have H4 := Lib.hid h4; clear h4
  have H5 := Lib.hid h5; clear h5
  have H6 := Lib.hid h6; clear h6
  have H7 := Lib.hid h7; clear h7
  have H8 := Lib.hid h8; clear h8
  have H9 := Lib.hid h9; clear h9
  have H10 := Lib.hid h10; clear h10
  have H11 := Lib.hid h11; clear h11
  have H12 := Lib.hid h12; clear h12
  have HK1 := Lib.hid hk1; clear hk1
  have HK2 := Lib.hid hk2; clear hk2
  have HK3 := Lib.hid hk3; clear hk3
  have HV := Lib.hid hv; clear hv
  have HR1 := Lib.hid hr1; clear hr1
  have HR2 := Lib.hid hr2; clear hr2
  have HR3 := Lib.hid hr3; clear hr3
  have HB := Lib.hid hb; clear hb
  have H3' := Lib.hid h3'; have H5' := Lib.hid h5'; have H6' := Lib.hid h6'
  clear h3' h5' h6'
  obtain ⟨W, hW⟩ : ∃ W, W = (w.alloc (.cells #[.int .u8 (uv k), .int .i64 s, .int .u64 (uv q), .int .u64 (uv p), .int .i64 i, .int .i64 n] 25)) := ⟨_, rfl⟩
  have hbw : Below w.heap.size w W := by subst hW; exact gr_alloc _ _
  have d0 : W.cell? ⟨w.heap.size, 0, none⟩ = some (.int .u8 (uv k)) := by subst hW; simp [go_sem]
  have d1 : W.cell? ⟨w.heap.size, 1, none⟩ = some (.int .i64 s) := by subst hW; simp [go_sem]
  have d2 : W.cell? ⟨w.heap.size, 2, none⟩ = some (.int .u64 (uv q)) := by subst hW; simp [go_sem]
  have d3 : W.cell? ⟨w.heap.size, 3, none⟩ = some (.int .u64 (uv p)) := by subst hW; simp [go_sem]
  have d4 : W.cell? ⟨w.heap.size, 4, none⟩ = some (.int .i64 i) := by subst hW; simp [go_sem]
  have d5 : W.cell? ⟨w.heap.size, 5, none⟩ = some (.int .i64 n) := by subst hW; simp [go_sem]
  have B := Lib.hid hbw; have HW := Lib.hid hW
  clear hbw hW
  go_enter Try.func13, Try.ntmps13
  go_upto_region 1 with fail
  rw [← HW.out]
  go_cut [3] (fun s wx => s = .bool r1 ∧ wx = W)
  case first =>
    have h1 := H1.out
    have h2 := H2.out
    have h3 := H3'.out
    have h4 := H4.out
    have h5 := H5'.out
    cases b1
    · cases b2
      · cases b3
        · cases b4
          · cases b5
            · obtain rfl : r1 = false := by rw [← HR1.out]; simp
              go_wp2_with fail
              go_meet
              exact ⟨rfl, rfl⟩
            · obtain rfl : r1 = true := by rw [← HR1.out]; simp
              go_wp2_with fail
              go_meet
              exact ⟨rfl, rfl⟩
          · obtain rfl : r1 = true := by rw [← HR1.out]; simp
            go_wp2_with fail
            go_meet
            exact ⟨rfl, rfl⟩
        · obtain rfl : r1 = true := by rw [← HR1.out]; simp
          go_wp2_with fail
          go_meet
          exact ⟨rfl, rfl⟩
      · obtain rfl : r1 = true := by rw [← HR1.out]; simp
        go_wp2_with fail
        go_meet
        exact ⟨rfl, rfl⟩
    · obtain rfl : r1 = true := by rw [← HR1.out]; simp
      go_wp2_with fail
      go_meet
      exact ⟨rfl, rfl⟩
  case rest =>
    obtain ⟨rfl, hw⟩ := hcut
    replace hw := hw.symm
    subst hw
    cases r1
    · have hk1 := HK1.out
      cases k1
      · have n2 : (uv k != 2) = !k2 := by rw [← HK2.out]; rfl
        have n3 : (uv k != 3) = !k3 := by rw [← HK3.out]; rfl
        cases k2
        · cases k3
          · clear n2 n3
            have n2 : (uv k != 2) = true := by have := HK2.out; simpa [bne] using this
            have n3 : (uv k != 3) = true := by have := HK3.out; simpa [bne] using this
            go_wp2_with fail
            go_ret
            exact ⟨by rw [HV.out]; rfl, B.out⟩
          · clear n2 n3
            have n2 : (uv k != 2) = true := by have := HK2.out; simpa [bne] using this
            have n3 : (uv k != 3) = false := by have := HK3.out; simpa [bne] using this
            have h10 := H10.out
            have h11 := H11.out
            have h12 := H12.out
            cases b10
            · obtain rfl : r3 = false := by rw [← HR3.out]; simp
              go_wp2_with fail
              go_ret
              exact ⟨by rw [HV.out]; rfl, B.out⟩
            · cases b11
              · obtain rfl : r3 = false := by rw [← HR3.out]; simp
                go_wp2_with fail
                go_ret
                exact ⟨by rw [HV.out]; rfl, B.out⟩
              · cases b12
                · obtain rfl : r3 = false := by rw [← HR3.out]; simp
                  go_wp2_with fail
                  go_ret
                  exact ⟨by rw [HV.out]; rfl, B.out⟩
                · obtain rfl : r3 = true := by rw [← HR3.out]; simp
                  go_wp2_with fail
                  go_ret
                  exact ⟨by rw [HV.out]; rfl, B.out⟩
        · clear n2 n3
          have n2 : (uv k != 2) = false := by have := HK2.out; simpa [bne] using this
          have h10 := H10.out
          have h11 := H11.out
          have h12 := H12.out
          cases b10
          · obtain rfl : r3 = false := by rw [← HR3.out]; simp
            go_wp2_with fail
            go_ret
            exact ⟨by rw [HV.out]; rfl, B.out⟩
          · cases b11
            · obtain rfl : r3 = false := by rw [← HR3.out]; simp
              go_wp2_with fail
              go_ret
              exact ⟨by rw [HV.out]; rfl, B.out⟩
            · cases b12
              · obtain rfl : r3 = false := by rw [← HR3.out]; simp
                go_wp2_with fail
                go_ret
                exact ⟨by rw [HV.out]; rfl, B.out⟩
              · obtain rfl : r3 = true := by rw [← HR3.out]; simp
                go_wp2_with fail
                go_ret
                exact ⟨by rw [HV.out]; rfl, B.out⟩
      · have h6 := H6'.out
        have h7 := H7.out
        have h8 := H8.out
        have h9 := H9.out
        cases b6
        · obtain rfl : r2 = false := by rw [← HR2.out]; simp
          go_wp2_with fail
          go_ret
          exact ⟨by rw [HV.out]; rfl, B.out⟩
        · cases b7
          · obtain rfl : r2 = false := by rw [← HR2.out]; simp
            go_wp2_with fail
            go_ret
            exact ⟨by rw [HV.out]; rfl, B.out⟩
          · cases b8
            · obtain rfl : r2 = false := by rw [← HR2.out]; simp
              go_wp2_with fail
              go_ret
              exact ⟨by rw [HV.out]; rfl, B.out⟩
            · cases b9
              · obtain rfl : r2 = false := by rw [← HR2.out]; simp
                go_wp2_with fail
                go_ret
                exact ⟨by rw [HV.out]; rfl, B.out⟩
              · obtain rfl : r2 = true := by rw [← HR2.out]; simp
                go_wp2_with fail
                go_ret
                exact ⟨by rw [HV.out]; rfl, B.out⟩
    · go_wp2_with fail
      go_ret
      exact ⟨by rw [HV.out]; rfl, B.out⟩
set_option maxRecDepth 8000 in
set_option maxHeartbeats 1600000 in
theorem rValid5_any (k : BitVec 8) (s : Int) (q p : BitVec 64) (i n : Int) (b : Bool) (w : World) (hb : Sp.valid k s q p i n = b) :
    Calls Try.prog 14 #[.agg #[.int .u8 (uv k), .int .i64 s, .int .u64 (uv q), .int .u64 (uv p), .int .i64 i, .int .i64 n]] w fun e w' => e = .returned (.bool b) ∧ Below w.heap.size w w' := by
  obtain ⟨b1, h1⟩ : ∃ z, decide (uv q < 1) = z := ⟨_, rfl⟩
  obtain ⟨b2, h2⟩ : ∃ z, decide (n < 1) = z := ⟨_, rfl⟩
  obtain ⟨b3, h3⟩ : ∃ z, decide (65535 < n) = z := ⟨_, rfl⟩
  obtain ⟨b4, h4⟩ : ∃ z, decide (i < 0) = z := ⟨_, rfl⟩
  obtain ⟨b5, h5⟩ : ∃ z, decide (n ≤ i) = z := ⟨_, rfl⟩
  obtain ⟨b6, h6⟩ : ∃ z, decide (0 ≤ s) = z := ⟨_, rfl⟩
  obtain ⟨b7, h7⟩ : ∃ z, decide (s ≤ 4294967294) = z := ⟨_, rfl⟩
  obtain ⟨b8, h8⟩ : ∃ z, (uv p == 0) = z := ⟨_, rfl⟩
  obtain ⟨b9, h9⟩ : ∃ z, (n == 1) = z := ⟨_, rfl⟩
  obtain ⟨b10, h10⟩ : ∃ z, (s == 0) = z := ⟨_, rfl⟩
  obtain ⟨b11, h11⟩ : ∃ z, decide (uv p < uv q) = z := ⟨_, rfl⟩
  obtain ⟨b12, h12⟩ : ∃ z, decide (uv (BitVec.ofInt 64 i) < uv (q - p)) = z := ⟨_, rfl⟩
  obtain ⟨k1, hk1⟩ : ∃ z, (uv k == 1) = z := ⟨_, rfl⟩
  obtain ⟨k2, hk2⟩ : ∃ z, (uv k == 2) = z := ⟨_, rfl⟩
  obtain ⟨k3, hk3⟩ : ∃ z, (uv k == 3) = z := ⟨_, rfl⟩
  have hv : b = if (b1 || b2 || b3 || b4 || b5) = true then false else if k1 = true then (b6 && b7 && b8 && b9) else if (k2 || k3) = true then (b10 && b11 && b12) else false := by
    rw [← hb, ← h1, ← h2, ← h3, ← h4, ← h5, ← h6, ← h7, ← h8, ← h9, ← h10, ← h11, ← h12, ← hk1, ← hk2, ← hk3]; rfl
  obtain ⟨r1, hr1⟩ : ∃ z, (b1 || b2 || b3 || b4 || b5) = z := ⟨_, rfl⟩
  obtain ⟨r2, hr2⟩ : ∃ z, (b6 && b7 && b8 && b9) = z := ⟨_, rfl⟩
  obtain ⟨r3, hr3⟩ : ∃ z, (b10 && b11 && b12) = z := ⟨_, rfl⟩
  rw [hr1, hr2, hr3] at hv
  have h3' : decide (n > 65535) = b3 := h3
  have h5' : decide (i ≥ n) = b5 := h5
  have h6' : decide (s ≥ 0) = b6 := h6
  have H1 := Lib.hid h1; clear h1
  have H2 := Lib.hid h2; clear h2
  have H3 := Lib.hid h3; clear h3
  have H4 := Lib.hid h4; clear h4
  have H5 := Lib.hid h5; clear h5
  have H6 := Lib.hid h6; clear h6
  have H7 := Lib.hid h7; clear h7
  have H8 := Lib.hid h8; clear h8
  have H9 := Lib.hid h9; clear h9
  have H10 := Lib.hid h10; clear h10
  have H11 := Lib.hid h11; clear h11
  have H12 := Lib.hid h12; clear h12
  have HK1 := Lib.hid hk1; clear hk1
  have HK2 := Lib.hid hk2; clear hk2
  have HK3 := Lib.hid hk3; clear hk3
  have HV := Lib.hid hv; clear hv
  have HR1 := Lib.hid hr1; clear hr1
  have HR2 := Lib.hid hr2; clear hr2
  have HR3 := Lib.hid hr3; clear hr3
  have HB := Lib.hid hb; clear hb
  have H3' := Lib.hid h3'; have H5' := Lib.hid h5'; have H6' := Lib.hid h6'
  clear h3' h5' h6'
  obtain ⟨W, hW⟩ : ∃ W, W = (w.alloc (.cells #[.int .u8 (uv k), .int .i64 s, .int .u64 (uv q), .int .u64 (uv p), .int .i64 i, .int .i64 n] 25)) := ⟨_, rfl⟩
  have hbw : Below w.heap.size w W := by subst hW; exact gr_alloc _ _
  have d0 : W.cell? ⟨w.heap.size, 0, none⟩ = some (.int .u8 (uv k)) := by subst hW; simp [go_sem]
  have d1 : W.cell? ⟨w.heap.size, 1, none⟩ = some (.int .i64 s) := by subst hW; simp [go_sem]
  have d2 : W.cell? ⟨w.heap.size, 2, none⟩ = some (.int .u64 (uv q)) := by subst hW; simp [go_sem]
  have d3 : W.cell? ⟨w.heap.size, 3, none⟩ = some (.int .u64 (uv p)) := by subst hW; simp [go_sem]
  have d4 : W.cell? ⟨w.heap.size, 4, none⟩ = some (.int .i64 i) := by subst hW; simp [go_sem]
  have d5 : W.cell? ⟨w.heap.size, 5, none⟩ = some (.int .i64 n) := by subst hW; simp [go_sem]
  have B := Lib.hid hbw; have HW := Lib.hid hW
  clear hbw hW
  go_enter Try.func14, Try.ntmps14
  go_upto_region 1 with fail
  rw [← HW.out]
  go_cut [27] (fun s wx => s = .bool r1 ∧ wx = W)
  case first =>
    have h1 := H1.out
    have h2 := H2.out
    have h3 := H3'.out
    have h4 := H4.out
    have h5 := H5'.out
    cases b1
    · cases b2
      · cases b3
        · cases b4
          · cases b5
            · obtain rfl : r1 = false := by rw [← HR1.out]; simp
              go_wp2_with fail
              go_meet
              exact ⟨rfl, rfl⟩
            · obtain rfl : r1 = true := by rw [← HR1.out]; simp
              go_wp2_with fail
              go_meet
              exact ⟨rfl, rfl⟩
          · obtain rfl : r1 = true := by rw [← HR1.out]; simp
            go_wp2_with fail
            go_meet
            exact ⟨rfl, rfl⟩
        · obtain rfl : r1 = true := by rw [← HR1.out]; simp
          go_wp2_with fail
          go_meet
          exact ⟨rfl, rfl⟩
      · obtain rfl : r1 = true := by rw [← HR1.out]; simp
        go_wp2_with fail
        go_meet
        exact ⟨rfl, rfl⟩
    · obtain rfl : r1 = true := by rw [← HR1.out]; simp
      go_wp2_with fail
      go_meet
      exact ⟨rfl, rfl⟩
  case rest =>
    obtain ⟨rfl, hw⟩ := hcut
    replace hw := hw.symm
    subst hw
    cases r1
    · have hk1 := HK1.out
      cases k1
      · have hk2 := HK2.out
        have hk3 := HK3.out
        cases k2
        · cases k3
          · go_wp2_with fail
            go_ret
            exact ⟨by rw [HV.out]; rfl, B.out⟩
          · have h10 := H10.out
            have h11 := H11.out
            have h12 := H12.out
            cases b10
            · obtain rfl : r3 = false := by rw [← HR3.out]; simp
              go_wp2_with fail
              go_ret
              exact ⟨by rw [HV.out]; rfl, B.out⟩
            · cases b11
              · obtain rfl : r3 = false := by rw [← HR3.out]; simp
                go_wp2_with fail
                go_ret
                exact ⟨by rw [HV.out]; rfl, B.out⟩
              · cases b12
                · obtain rfl : r3 = false := by rw [← HR3.out]; simp
                  go_wp2_with fail
                  go_ret
                  exact ⟨by rw [HV.out]; rfl, B.out⟩
                · obtain rfl : r3 = true := by rw [← HR3.out]; simp
                  go_wp2_with fail
                  go_ret
                  exact ⟨by rw [HV.out]; rfl, B.out⟩
        · have h10 := H10.out
          have h11 := H11.out
          have h12 := H12.out
          cases b10
          · obtain rfl : r3 = false := by rw [← HR3.out]; simp
            go_wp2_with fail
            go_ret
            exact ⟨by rw [HV.out]; rfl, B.out⟩
          · cases b11
            · obtain rfl : r3 = false := by rw [← HR3.out]; simp
              go_wp2_with fail
              go_ret
              exact ⟨by rw [HV.out]; rfl, B.out⟩
            · cases b12
              · obtain rfl : r3 = false := by rw [← HR3.out]; simp
                go_wp2_with fail
                go_ret
                exact ⟨by rw [HV.out]; rfl, B.out⟩
              · obtain rfl : r3 = true := by rw [← HR3.out]; simp
                go_wp2_with fail
                go_ret
                exact ⟨by rw [HV.out]; rfl, B.out⟩
      · have h6 := H6'.out
        have h7 := H7.out
        have h8 := H8.out
        have h9 := H9.out
        cases b6
        · obtain rfl : r2 = false := by rw [← HR2.out]; simp
          go_wp2_with fail
          go_ret
          exact ⟨by rw [HV.out]; rfl, B.out⟩
        · cases b7
          · obtain rfl : r2 = false := by rw [← HR2.out]; simp
            go_wp2_with fail
            go_ret
            exact ⟨by rw [HV.out]; rfl, B.out⟩
          · cases b8
            · obtain rfl : r2 = false := by rw [← HR2.out]; simp
              go_wp2_with fail
              go_ret
              exact ⟨by rw [HV.out]; rfl, B.out⟩
            · cases b9
              · obtain rfl : r2 = false := by rw [← HR2.out]; simp
                go_wp2_with fail
                go_ret
                exact ⟨by rw [HV.out]; rfl, B.out⟩
              · obtain rfl : r2 = true := by rw [← HR2.out]; simp
                go_wp2_with fail
                go_ret
                exact ⟨by rw [HV.out]; rfl, B.out⟩
    · go_wp2_with fail
      go_ret
      exact ⟨by rw [HV.out]; rfl, B.out⟩
end Go.Proofs.Yteicmbapipnbjaa
