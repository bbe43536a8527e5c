/- The walks of a writer's and a reader's methods at a nil receiver. -/
import Derived.Test.YteicmbapipnbjaaDoorWireJ
import Derived.Test.YteicmbapipnbjaaDoorWireK
namespace Go.Proofs.YteicmbapipnbjaaDoor
open Go.RowKit
set_option linter.unusedVariables false
set_option linter.unusedSimpArgs false
theorem add_nil (a : Option Addr) (n c : Nat) (e : Int) (w : World) : Calls Tryd.prog 54 #[.pointer none, .slice a n c, .int .i64 e] w fun x w' => x = .returned (.int .i64 1) ∧ w = w' := by
  go_enter Tryd.func54, Tryd.ntmps54
  go_wp2
  go_ret
  exact ⟨rfl, rfl⟩
theorem Add_nil (x : BitVec 64) (n : Int) (w : World) : Calls Tryd.prog 40 #[.pointer none, .int .u64 (uv x), .int .i64 n] w fun r w' => r = .returned (.int .i64 1) ∧ Below w.heap.size w w' := by
  obtain ⟨e, he⟩ : ∃ e, Wire.putE x n = e := ⟨_, rfl⟩
  obtain ⟨b, hb⟩ : ∃ e, Wire.putB x n = e := ⟨_, rfl⟩
  have HE := Lib.hid he; have HBB := Lib.hid hb; clear he hb
  go_enter Tryd.func40, Tryd.ntmps40
  go_wp2_with (first
    | (go_at_call 11; go_loud (refine (Put_at x n e b _ HE.out HBB.out).mono ?_; rintro r w1 ⟨u1, rfl, hown, hb1⟩; obtain ⟨a1, c1, rfl⟩ := own_shape hown; have C1 := Lib.hid hb1; clear hown hb1))
    | (go_at_call 54; go_loud (refine (add_nil _ _ _ _ _).mono ?_; rintro r w' ⟨rfl, rfl⟩)))
  go_ret
  exact ⟨rfl, C1.out⟩
theorem AddAll_nil (w : World) : Calls Tryd.prog 25 #[.pointer none, .slice none 0 0] w fun r w' => r = .returned (.int .i64 1) ∧ Below w.heap.size w w' := by
  have hf : FieldsV w (.slice none 0 0) [] := ⟨none, 0, rfl, fun _ => rfl, by simp, by simp, .inl rfl⟩
  have F := Lib.hid hf; clear hf
  go_enter Tryd.func25, Tryd.ntmps25
  go_wp2_with (first
    | (go_at_call 55; go_loud (refine (eachB_any _ [] _ F.out (by simp)).mono ?_; rintro r w1 ⟨u1, rfl, hown, hb1⟩; obtain ⟨a1, c1, rfl⟩ := own_shape hown; have C1 := Lib.hid hb1; clear hown hb1))
    | (go_at_call 54; go_loud (refine (add_nil _ _ _ _ _).mono ?_; rintro r w' ⟨rfl, rfl⟩)))
  go_ret
  exact ⟨rfl, C1.out⟩
theorem AddBytes_nil (w : World) : Calls Tryd.prog 38 #[.pointer none, .slice none 0 0] w fun r w' => r = .returned (.int .i64 1) ∧ w = w' := by
  go_enter Tryd.func38, Tryd.ntmps38
  go_wp2_with (go_at_call 54; go_loud (refine (add_nil _ _ _ _ _).mono ?_; rintro r w' ⟨rfl, rfl⟩))
  go_ret
  exact ⟨rfl, rfl⟩
theorem AddText_nil (n : Int) (w : World) (hn : -9223372036854775808 ≤ n) : Calls Tryd.prog 39 #[.pointer none, .string ⟨#[]⟩, .int .i64 n] w fun r w' => r = .returned (.int .i64 1) ∧ Below w.heap.size w w' := by
  obtain ⟨e, he⟩ : ∃ e, Wire.padE [] n = e := ⟨_, rfl⟩
  obtain ⟨b, hb⟩ : ∃ e, Wire.pad [] n = e := ⟨_, rfl⟩
  have HE := Lib.hid he; have HBB := Lib.hid hb; have HN := Lib.hid hn; clear he hb hn
  go_enter Tryd.func39, Tryd.ntmps39
  go_wp2_with (first
    | (go_at_call 21; go_loud (refine (Pad_at [] n e b _ (by simp) HN.out HE.out HBB.out).mono ?_; rintro r w1 ⟨u1, rfl, hown, hb1⟩; obtain ⟨a1, n1, c1, rfl⟩ := bytes_shape hown; have C1 := Lib.hid hb1; clear hown hb1))
    | (go_at_call 54; go_loud (refine (add_nil _ _ _ _ _).mono ?_; rintro r w' ⟨rfl, rfl⟩)))
  go_ret
  exact ⟨rfl, C1.out⟩
theorem Zero_nil (n : Int) (w : World) : Calls Tryd.prog 37 #[.pointer none, .int .i64 n] w fun r w' => r = .returned (.int .i64 1) ∧ w = w' := by
  go_enter Tryd.func37, Tryd.ntmps37
  go_wp2
  go_ret
  exact ⟨rfl, rfl⟩
theorem Len_nil (w : World) : Calls Tryd.prog 36 #[.pointer none] w fun r w' => r = .returned (.int .i64 0) ∧ w = w' := by
  go_enter Tryd.func36, Tryd.ntmps36
  go_wp2
  go_ret
  exact ⟨rfl, rfl⟩
theorem Bytes_nil (w : World) : Calls Tryd.prog 27 #[.pointer none] w fun r w' => r = .returned (.slice none 0 0) ∧ w = w' := by
  go_enter Tryd.func27, Tryd.ntmps27
  go_wp2
  go_ret
  exact ⟨rfl, rfl⟩
theorem state_none (w : World) : Calls Tryd.prog 58 #[.pointer none] w fun e w' => e = .returned (.pointer (some ⟨w.heap.size, 0, none⟩)) ∧ w' = w.alloc (.cells #[.slice none 0 0, .int .i64 0] 97) := by
  go_enter Tryd.func58, Tryd.ntmps58
  go_wp2
  go_ret
  exact ⟨rfl, rfl⟩
theorem rest0 (w : World) : RdAt (w.alloc (.cells #[.slice none 0 0, .int .i64 0] 97)) 97 w.heap.size w.heap.size (.slice none 0 0) [] 0 :=
  ⟨heap_alloc_new w _, BytesV.nil _, by simp, (fun ad m c h => by cases h), Nat.le_refl _⟩
theorem Left_nil (w : World) : Calls Tryd.prog 30 #[.pointer none] w fun e w' => e = .returned (.int .i64 0) ∧ Below w.heap.size w w' := by
  go_enter Tryd.func30, Tryd.ntmps30
  go_wp2_with (go_at_call 58; refine (state_none _).mono ?_; rintro e w' ⟨rfl, rfl⟩)
  go_ret
  exact ⟨rfl, gr_alloc _ _⟩
theorem At_nil (w : World) : Calls Tryd.prog 33 #[.pointer none] w fun e w' => e = .returned (.int .i64 0) ∧ Below w.heap.size w w' := by
  go_enter Tryd.func33, Tryd.ntmps33
  go_wp2_with (go_at_call 58; refine (state_none _).mono ?_; rintro e w' ⟨rfl, rfl⟩)
  go_ret
  exact ⟨rfl, gr_alloc _ _⟩
theorem Skip_nil (w : World) : Calls Tryd.prog 44 #[.pointer none, .int .i64 0] w fun x w' => x = .returned (.int .i64 0) ∧ Below w.heap.size w w' := by
  have R := Lib.hid (rest0 w)
  go_enter Tryd.func44, Tryd.ntmps44
  go_wp2_with (first
    | (go_at_call 58; refine (state_none _).mono ?_; rintro x w' ⟨rfl, rfl⟩)
    | (go_at_call 64; go_loud (refine (take_ok 97 _ _ [] 0 0 _ R.out (by simp)).mono ?_; rintro x w1 ⟨u, rfl, hu, ⟨v1, hr⟩, hc⟩; have C1 := Lib.hid (chg_new hc (gr_alloc _ _) (Nat.le_refl _)); clear hu hr hc)))
  go_ret
  exact ⟨rfl, C1.out⟩
theorem Take_nil (w : World) : Calls Tryd.prog 42 #[.pointer none, .int .i64 0] w fun x w' => ∃ a c, x = .returned (.tuple #[.slice a 0 c, .int .i64 0]) ∧ Below w.heap.size w w' := by
  have R := Lib.hid (rest0 w)
  go_enter Tryd.func42, Tryd.ntmps42
  go_wp2_with (first
    | (go_at_call 58; refine (state_none _).mono ?_; rintro x w' ⟨rfl, rfl⟩)
    | (go_at_call 64; go_loud (refine (take_ok 97 _ _ [] 0 0 _ R.out (by simp)).mono ?_; rintro x w1 ⟨u, rfl, hu, ⟨v1, hr⟩, hc⟩; have U := Lib.hid hu; have C1 := Lib.hid (chg_new hc (gr_alloc _ _) (Nat.le_refl _)); clear hu hr hc))
    | (go_at_call 57; go_loud (refine (Clone_any _ [] _ U.out (by simp)).mono ?_; rintro x w2 ⟨u2, rfl, ho, hb⟩; obtain ⟨a2, c2, rfl⟩ := own_shape ho; have C2 := Lib.hid (gr_tr C1.out hb); clear ho hb)))
  go_ret2
  exact ⟨_, _, rfl, C2.out⟩
theorem All_nil1 (u : Value) (w : World) (hu : IntsV w u [1]) : Calls Tryd.prog 28 #[.pointer none, u] w fun e w' => e = .returned (.tuple #[.slice none 0 0, .int .i64 4]) ∧ Below w.heap.size w w' := by
  have hmf : ∀ (fn : Fn) (first cap : Array Value) (w : World), (Instr.makeFunc fn first cap).run Tryd.prog w = .ok (.func fn first cap) w := fun _ _ _ _ => rfl
  have her : Wire.readE [] [1] = 4 := by decide +kernel
  have U := Lib.hid hu; have HER := Lib.hid her
  obtain ⟨W0, hW0⟩ : ∃ W, W = w.alloc (.cells #[.slice none 0 0, .int .i64 0] 97) := ⟨_, rfl⟩
  have hc0 : W0.cell? ⟨w.heap.size, 0, none⟩ = some (.slice none 0 0) := by subst hW0; exact (cell_of_row _ _ 0 _ _ _ (heap_alloc_new _ _)).trans rfl
  have hc1 : W0.cell? ⟨w.heap.size, 1, none⟩ = some (.int .i64 0) := by subst hW0; exact (cell_of_row _ _ 1 _ _ _ (heap_alloc_new _ _)).trans rfl
  have hb0 : Below w.heap.size w W0 := by subst hW0; exact gr_alloc _ _
  obtain ⟨W, hW⟩ : ∃ W, W = W0.alloc (.cells #[.slice none 0 0, .int .i64 0] 99) := ⟨_, rfl⟩
  have hbW : Below w.heap.size w W := by subst hW; exact gr_tr hb0 (gr_alloc _ _)
  have hqW : RdAt W 99 W0.heap.size W0.heap.size (.slice none 0 0) [] 0 := by
    subst hW
    exact ⟨heap_alloc_new _ _, BytesV.nil _, by simp, (fun ad m c h => by cases h), Nat.le_refl _⟩
  have hsz : w.heap.size ≤ W0.heap.size := hb0.size
  have BW := Lib.hid hbW; have QW := Lib.hid hqW; have HW := Lib.hid hW; have HW0 := Lib.hid hW0; have HSZ := Lib.hid hsz
  have BW0 := Lib.hid (show Below W0.heap.size W0 W by rw [hW]; exact gr_alloc _ _)
  clear hu her hbW hqW hW hW0 hb0 hsz
  go_enter Tryd.func28, Tryd.ntmps28
  go_upto_region 2 with (go_at_call 58; refine (state_none _).mono ?_; rintro e w' ⟨rfl, rfl⟩; rw [← HW0.out])
  rw [← HW.out]
  clear hc0 hc1
  go_wp2_with (go_at_call 59; refine (eachU_any W0.heap.size 99 _ [] 0 _ [1] _ QW.out (by decide) (U.out.below BW.out) (fun g o m c e hm => by have := intsv_lt U.out g o m c e hm; have := HSZ.out; omega) (by decide)).mono ?_; rintro r w1 ⟨hno, -, hc⟩; have hno := hno (by rw [HER.out]; decide); rw [HER.out] at hno; subst hno; have B1 := Lib.hid (chg_new hc BW.out HSZ.out); clear hc)
  go_ret2
  exact ⟨rfl, B1.out⟩
theorem Next_nil (w : World) : Calls Tryd.prog 41 #[.pointer none, .int .i64 1] w fun e w' => e = .returned (.tuple #[.int .u64 0, .int .i64 4]) ∧ Below w.heap.size w w' := by
  have hi : ∀ W : World, IntsV (W.alloc (.cells #[.int .i64 1] 3)) (.slice (some ⟨W.heap.size, 0, none⟩) 1 1) [1] := fun W => ⟨_, _, rfl, by simp, Nat.le_refl _, by simp, Row.lit _ _ _ _⟩
  have HI := Lib.hid hi; clear hi
  go_enter Tryd.func41, Tryd.ntmps41
  go_wp2_with (go_at_call 28; refine (All_nil1 _ _ (HI.out _)).mono ?_; rintro e w1 ⟨rfl, hb⟩; have B1 := Lib.hid (gr_tr (gr_alloc _ _) hb); clear hb)
  go_ret2
  exact ⟨rfl, B1.out⟩
theorem All_nil0 (w : World) : Calls Tryd.prog 28 #[.pointer none, .slice none 0 0] w fun e w' => ∃ a c, e = .returned (.tuple #[.slice a 0 c, .int .i64 0]) ∧ Below w.heap.size w w' := by
  have hmf : ∀ (fn : Fn) (first cap : Array Value) (w : World), (Instr.makeFunc fn first cap).run Tryd.prog w = .ok (.func fn first cap) w := fun _ _ _ _ => rfl
  have hu : ∀ W : World, IntsV W (.slice none 0 0) [] := fun W => ⟨none, 0, rfl, fun _ => rfl, by simp, by simp, .inl rfl⟩
  have U := Lib.hid hu
  obtain ⟨W0, hW0⟩ : ∃ W, W = w.alloc (.cells #[.slice none 0 0, .int .i64 0] 97) := ⟨_, rfl⟩
  have hc0 : W0.cell? ⟨w.heap.size, 0, none⟩ = some (.slice none 0 0) := by subst hW0; exact (cell_of_row _ _ 0 _ _ _ (heap_alloc_new _ _)).trans rfl
  have hc1 : W0.cell? ⟨w.heap.size, 1, none⟩ = some (.int .i64 0) := by subst hW0; exact (cell_of_row _ _ 1 _ _ _ (heap_alloc_new _ _)).trans rfl
  have hb0 : Below w.heap.size w W0 := by subst hW0; exact gr_alloc _ _
  obtain ⟨W, hW⟩ : ∃ W, W = W0.alloc (.cells #[.slice none 0 0, .int .i64 0] 99) := ⟨_, rfl⟩
  have hbW : Below w.heap.size w W := by subst hW; exact gr_tr hb0 (gr_alloc _ _)
  have hqW : RdAt W 99 W0.heap.size W0.heap.size (.slice none 0 0) [] 0 := by
    subst hW
    exact ⟨heap_alloc_new _ _, BytesV.nil _, by simp, (fun ad m c h => by cases h), Nat.le_refl _⟩
  have hsz : w.heap.size ≤ W0.heap.size := hb0.size
  have BW := Lib.hid hbW; have QW := Lib.hid hqW; have HW := Lib.hid hW; have HW0 := Lib.hid hW0; have HSZ := Lib.hid hsz
  clear hu hbW hqW hW hW0 hb0 hsz
  go_enter Tryd.func28, Tryd.ntmps28
  go_upto_region 2 with (go_at_call 58; refine (state_none _).mono ?_; rintro e w' ⟨rfl, rfl⟩; rw [← HW0.out])
  rw [← HW.out]
  clear hc0 hc1
  go_wp2_with (go_at_call 59; go_loud (refine (eachU_any W0.heap.size 99 _ [] 0 _ [] _ QW.out (by decide) (U.out _) (fun g o m c e hm => by cases e) (by decide)).mono ?_; rintro r w1 ⟨-, hok, hc⟩; obtain ⟨x, v', rfl, hown, hrd⟩ := hok rfl; obtain ⟨a1, c1, rfl⟩ := own_shape hown; have B1 := Lib.hid (chg_new hc BW.out HSZ.out); clear hc hok hown hrd))
  go_ret2
  exact ⟨_, _, rfl, B1.out⟩
theorem Zeros_nil (w : World) : Calls Tryd.prog 43 #[.pointer none, .int .i64 1] w fun x w' => x = .returned (.int .i64 4) ∧ Below w.heap.size w w' := by
  have d0 : (w.alloc (.cells #[.slice none 0 0, .int .i64 0] 97)).cell? ⟨w.heap.size, 0, none⟩ = some (.slice none 0 0) := (cell_of_row _ _ 0 _ _ _ (heap_alloc_new _ _)).trans rfl
  have d1 : (w.alloc (.cells #[.slice none 0 0, .int .i64 0] 97)).cell? ⟨w.heap.size, 1, none⟩ = some (.int .i64 0) := (cell_of_row _ _ 1 _ _ _ (heap_alloc_new _ _)).trans rfl
  obtain ⟨W0, hW0⟩ : ∃ W, W = w.alloc (.cells #[.slice none 0 0, .int .i64 0] 97) := ⟨_, rfl⟩
  rw [← hW0] at d0 d1
  have hb0 : Below w.heap.size w W0 := by subst hW0; exact gr_alloc _ _
  obtain ⟨W, hW⟩ : ∃ W, W = W0.alloc (.cells #[.slice none 0 0, .int .i64 0] 99) := ⟨_, rfl⟩
  have hbW : Below w.heap.size w W := by subst hW; exact gr_tr hb0 (gr_alloc _ _)
  have hqW : RdAt W 99 W0.heap.size W0.heap.size (.slice none 0 0) [] 0 := by
    subst hW
    exact ⟨heap_alloc_new _ _, BytesV.nil _, by simp, (fun ad m c h => by cases h), Nat.le_refl _⟩
  have BW := Lib.hid hbW; have QW := Lib.hid hqW; have HW := Lib.hid hW; have HW0 := Lib.hid hW0
  clear hbW hqW hW hW0 hb0
  go_enter Tryd.func43, Tryd.ntmps43
  go_upto_region 2 with (go_at_call 58; refine (state_none _).mono ?_; rintro e w' ⟨rfl, rfl⟩; rw [← HW0.out])
  rw [← HW.out]
  clear d0 d1
  go_wp2_with (go_at_call 64; go_loud (refine (take_short 99 _ _ [] 0 1 _ QW.out (by decide)).mono ?_; rintro e w' ⟨rfl, rfl⟩))
  go_ret
  exact ⟨rfl, BW.out⟩
end Go.Proofs.YteicmbapipnbjaaDoor
