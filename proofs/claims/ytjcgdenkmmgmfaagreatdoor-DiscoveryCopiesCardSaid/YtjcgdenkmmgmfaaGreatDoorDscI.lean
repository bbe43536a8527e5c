/- Discovery: equality of records; the reference's Same. Printed by gendsci.py. -/
import Derived.Test.YtjcgdenkmmgmfaaGreatDoorDscH
import Derived.Test.YtjcgdenkmmgmfaaGreatDoorMidL
namespace Go.Proofs.YtjcgdenkmmgmfaaGreatDoor
open Go.RowKit Dsc
set_option linter.unusedVariables false
set_option linter.unusedSimpArgs false
/-- Two records are equal. -/
def Dsc.Rec.same (a b : Rec) : Bool := a.tr == b.tr && (a.fa == b.fa && (a.rf == b.rf && (a.sc == b.sc && (a.po == b.po && (a.ct == b.ct && (a.qu == b.qu && (a.sv == b.sv && (a.sb == b.sb && a.ad == b.ad))))))))
theorem same_iff (a b : Rec) : a.same b = true ↔ a = b := by
  obtain ⟨a0, a1, a2, a3, a4, a5, a6, a7, a8, a9⟩ := a
  obtain ⟨b0, b1, b2, b3, b4, b5, b6, b7, b8, b9⟩ := b
  unfold Dsc.Rec.same
  simp only [Bool.and_eq_true, beq_iff_eq, Rec.mk.injEq]
theorem same_self (a : Rec) : a.same a = true := (same_iff a a).2 rfl
theorem strOf_inj {l m : List (BitVec 8)} : (strOf l).toList = (strOf m).toList ↔ l = m := by
  have := strOf_beq l m
  rw [Bool.eq_iff_iff, beq_iff_eq, beq_iff_eq] at this
  exact this
set_option maxRecDepth 20000 in
set_option maxHeartbeats 3200000 in
theorem rec_equalIn (a b : Rec) (w : World) : (Op.equalIn 10000 37 (.agg a.cells.toArray) (.agg b.cells.toArray)).run Tryz.prog w = .ok (a.same b) w := by
  have hS : Tryz.prog.underlying 37 = some (.struct (Tryz.prog.fieldsOf 37)) := by kernel_rfl
  have hp : Tryz.prog.stoodInHeld 37 = false := by kernel_rfl
  have u1 := Tryz.underlying5
  have u2 := Tryz.underlying35
  have u3 := Tryz.underlying4
  have u4 := Tryz.underlying9
  obtain ⟨a0, a1, a2, a3, a4, a5, a6, a7, a8, a9⟩ := a
  obtain ⟨b0, b1, b2, b3, b4, b5, b6, b7, b8, b9⟩ := b
  simp only [Dsc.Rec.cells]
  rw [show (10000 : Nat) = 9999 + 1 from rfl, run_equalIn_agg w 9999 37 _ _ hS hp]
  simp only [Program.fieldsOf, Tryz.underlying37]
  go_simp
  simp only [strOf_inj]
  unfold Dsc.Rec.same
  clear hS hp u1 u2 u3 u4
  repeat' split
  all_goals simp [*]
theorem rec_eql (a b : Rec) (w : World) : (binOp .eql 37 (.agg a.cells.toArray) (.agg b.cells.toArray)).run Tryz.prog w = .ok (.bool (a.same b)) w := by
  rw [run_eql_struct, rec_equalIn]; rfl
theorem rec_neq (a b : Rec) (w : World) : (binOp .neq 37 (.agg a.cells.toArray) (.agg b.cells.toArray)).run Tryz.prog w = .ok (.bool (!(a.same b))) w := by
  rw [run_neq_struct, rec_equalIn]; rfl
set_option maxRecDepth 20000 in
set_option maxHeartbeats 3200000 in
theorem Same_eq (v1 v2 : Value) (xs : List Rec) (w : World) (h1 : SliceV w Dsc.Rec.cells v1 xs) (h2 : SliceV w Dsc.Rec.cells v2 xs) :
    Calls Tryz.prog 19 #[v1, v2] w fun e w' => e = .returned (.bool true) ∧ Below w.heap.size w w' := by
  have S1 := Lib.hid h1; have S2 := Lib.hid h2
  obtain ⟨a1, c1, e1, -, hm1, hm2, -⟩ := id h1
  obtain ⟨a2, c2, e2, -⟩ := id h2
  subst e1; subst e2
  clear h1 h2
  obtain ⟨n, hn⟩ : ∃ n, xs.length = n := ⟨_, rfl⟩
  have hmax : n ≤ 9223372036854775807 := by omega
  have HN := Lib.hid hn
  rw [hn]
  clear hn hm1 hm2
  go_enter Tryz.func19, Tryz.ntmps19
  go_wp2
  go_loopw [5] (fun i wr => ∃ k : Nat, k ≤ n ∧ i = .int .i64 k ∧ Below w.heap.size w wr) (fun i _ => n - (intOf i).toNat)
  case atStart => exact ⟨0, by omega, rfl, Below.refl _ _⟩
  case round =>
    obtain ⟨k, hk, rfl, hb⟩ := hrel
    have C := Lib.hid hb
    clear hb
    by_cases hlt : k < n
    · obtain ⟨r, hr⟩ : ∃ r, xs[k]? = some r := ⟨_, List.getElem?_eq_getElem (by rw [HN.out]; exact hlt)⟩
      obtain ⟨g1, o1, q1, he1, hr1⟩ := SliceV.rng rec_len S1.out k r hr (by decide)
      obtain ⟨g2, o2, q2, he2, hr2⟩ := SliceV.rng rec_len S2.out k r hr (by decide)
      injection he1 with he1 he1' he1''
      injection he2 with he2 he2' he2''
      subst he1; subst he1''; subst he2; subst he2''
      have R1 := Lib.hid (rng_below hr1 C.out); have R2 := Lib.hid (rng_below hr2 C.out)
      have CLL := Lib.hid (rec_len r)
      have hne := fun w => rec_neq r r w
      rw [same_self] at hne
      obtain ⟨cl, hcl⟩ : ∃ cl, r.cells = cl := ⟨_, rfl⟩
      rw [hcl] at R1 R2 CLL hne
      clear hr hr1 hr2 hcl he1' he2'
      go_upto_region 6 with fail
      refine wp_region_planW nowhere [(true, 0), (true, 1), (true, 2), (true, 3), (true, 4), (true, 5), (true, 6), (true, 7), (true, 8)] (by kernel_rfl) (by kernel_rfl) (by intro c a d v w h; cases d <;> exact h) ?_
      intro W1 K1 C1
      (refine wpS_firm rfl (fun K hK => ?_); simp only [Keep]; go_simp; refine hK _ ?_; clear hK K)
      (refine wpS_firm rfl (fun K hK => ?_); simp only [Keep]; go_simp; refine hK _ ?_; clear hK K)
      (refine wpS_firm rfl (fun K hK => ?_); simp only [Keep]; go_simp; refine hK _ ?_; clear hK K)
      refine wpS_load_mid rfl rfl 37 (.tmp 19) rfl g1 (o1 + k * 10) rfl cl _ (fun x hx => Keep.rng hx R1.out id) Tryz.underlying37 rfl (by rw [CLL.out]; kernel_rfl) ?_
      (refine wpS_firm rfl (fun K hK => ?_); simp only [Keep]; go_simp; refine hK _ ?_; clear hK K)
      (refine wpS_firm rfl (fun K hK => ?_); simp only [Keep]; go_simp; refine hK _ ?_; clear hK K)
      (refine wpS_firm rfl (fun K hK => ?_); simp only [Keep]; go_simp; refine hK _ ?_; clear hK K)
      refine wpS_load_mid rfl rfl 37 (.tmp 23) rfl g2 (o2 + k * 10) rfl cl _ (fun x hx => Keep.rng hx R2.out id) Tryz.underlying37 rfl (by rw [CLL.out]; kernel_rfl) ?_
      (refine wpS_firm rfl (fun K hK => ?_); simp only [Keep]; go_simp; refine hK _ ?_; clear hK K)
      unfold wpS
      go_wp2
      go_roundw
      case rel => exact ⟨k + 1, by omega, by go_num, C.out.trans (C1.out.mono C.out.size)⟩
      case measure => simp [intOf]; omega
    · obtain rfl : k = n := by omega
      go_wp2
      go_ret
      exact ⟨rfl, C.out⟩
end Go.Proofs.YtjcgdenkmmgmfaaGreatDoor
