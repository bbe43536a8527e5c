/- The fields of a controller as places (identify.controller, identify.texts). Printed by genidc.py. -/
import Derived.Test.YthnnopjakpjoeaaDoorIdB
import Derived.Test.YthnnopjakpjoeaaDoorIdCtl
import Derived.Great.BuildSlice
import Derived.Test.YthnnopjakpjoeaaDoorFirm
import Derived.Test.YthnnopjakpjoeaaDoorPlanF
namespace Go.Proofs.YthnnopjakpjoeaaDoor
open Go.RowKit Idn Go.ChangeShapes Go.WideShapes Go.ChangeAt
set_option linter.unusedVariables false
set_option linter.unusedSimpArgs false
theorem at_u8i (X o : Nat) (a : Int) (ha : 0 ≤ a) (w : World) :
    Calls Tryd.prog 131 #[.pointer (some ⟨X, o, none⟩), .int .i64 a, .int .i64 1] w fun e w' => ∃ box, e = .returned (.agg (Pl.cells ⟨a.toNat, .u8, X, o, box⟩).toArray) ∧ w.heap.size ≤ box ∧ Pl.ok w' ⟨a.toNat, .u8, X, o, box⟩ ∧ Below w.heap.size w w' := by
  have := at_u8 X o a.toNat w
  rw [Int.toNat_of_nonneg ha] at this
  exact this
theorem at_u16i (X o : Nat) (a : Int) (ha : 0 ≤ a) (w : World) :
    Calls Tryd.prog 130 #[.pointer (some ⟨X, o, none⟩), .int .i64 a, .int .i64 2] w fun e w' => ∃ box, e = .returned (.agg (Pl.cells ⟨a.toNat, .u16, X, o, box⟩).toArray) ∧ w.heap.size ≤ box ∧ Pl.ok w' ⟨a.toNat, .u16, X, o, box⟩ ∧ Below w.heap.size w w' := by
  have := at_u16 X o a.toNat w
  rw [Int.toNat_of_nonneg ha] at this
  exact this
theorem at_u32i (X o : Nat) (a : Int) (ha : 0 ≤ a) (w : World) :
    Calls Tryd.prog 126 #[.pointer (some ⟨X, o, none⟩), .int .i64 a, .int .i64 4] w fun e w' => ∃ box, e = .returned (.agg (Pl.cells ⟨a.toNat, .u32, X, o, box⟩).toArray) ∧ w.heap.size ≤ box ∧ Pl.ok w' ⟨a.toNat, .u32, X, o, box⟩ ∧ Below w.heap.size w w' := by
  have := at_u32 X o a.toNat w
  rw [Int.toNat_of_nonneg ha] at this
  exact this
theorem at_u64i (X o : Nat) (a : Int) (ha : 0 ≤ a) (w : World) :
    Calls Tryd.prog 142 #[.pointer (some ⟨X, o, none⟩), .int .i64 a, .int .i64 8] w fun e w' => ∃ box, e = .returned (.agg (Pl.cells ⟨a.toNat, .u64, X, o, box⟩).toArray) ∧ w.heap.size ≤ box ∧ Pl.ok w' ⟨a.toNat, .u64, X, o, box⟩ ∧ Below w.heap.size w w' := by
  have := at_u64 X o a.toNat w
  rw [Int.toNat_of_nonneg ha] at this
  exact this
/-- A slice that lies behind the base. -/
def NewS (base : Nat) (u : Value) : Prop := ∀ g o n c, u = .slice (some ⟨g, o, none⟩) n c → base ≤ g
theorem SliceV.of_cells (w : World) {α : Type} {f : α → List Value} (ps : List α) (cs : Array Value) (t : TypeId) (n : Nat) (hn : n = ps.length) (hm : n ≤ 9223372036854775807) (hcs : cs.toList = ps.flatMap f) : SliceV (w.alloc (.cells cs t)) f (.slice (some ⟨w.heap.size, 0, none⟩) n n) ps := by
  subst hn
  exact ⟨_, _, rfl, by simp, Nat.le_refl _, hm, by rw [← hcs]; exact Row.lit _ _ _ _⟩
theorem placesOk : ElemOk Tryd.prog 152 224 (.agg #[.int .i64 0, .int .i64 0, .nilFunc, .nilFunc]) 4 32 :=
  ⟨Tryd.underlying152, info_parts (by kernel_rfl), rfl, by decide⟩
theorem offCtl : offOk Tryd.prog 38 [0, 1, 2, 3, 4, 5, 6, 7, 8, 9, 10, 11, 12, 13, 14, 15, 16, 17, 18, 19, 20, 21, 22, 23, 24, 25] = true := by kernel_rfl
set_option maxHeartbeats 6400000 in
set_option maxRecDepth 100000 in
theorem controller_any (X : Nat) (w : World) :
    Calls Tryd.prog 74 #[.pointer (some ⟨X, 0, none⟩)] w fun e w' => ∃ pv ps, e = .returned pv ∧ SliceV w' Pl.cells pv ps ∧ ps.map key = ctlSpec ∧ PsOk w' w.heap.size X ps ∧ NewS w.heap.size pv ∧ Below w.heap.size w w' := by
  go_enter Tryd.func74, Tryd.ntmps74
  go_wp2
  refine wp_region_planWF nowhere (([0, 1, 2, 4, 5, 6, 8, 9, 10, 12, 13, 14, 16, 17, 18, 20, 21, 22, 24, 25, 26, 28, 29, 30, 32, 33, 34, 36, 37, 38, 40, 41, 42, 44, 45, 46, 48, 49, 50, 52, 53, 54, 56, 57, 58, 60, 61, 62, 64, 65, 66, 68, 69, 70, 72, 73, 74, 76, 77, 78, 80, 81, 82, 84, 85, 86] : List Nat).map (fun i => (true, i)) ++ [(false, 3), (false, 7), (false, 11), (false, 15), (false, 19), (false, 23), (false, 27), (false, 31), (false, 35), (false, 39), (false, 43), (false, 47), (false, 51), (false, 55), (false, 59), (false, 63), (false, 67), (false, 71), (false, 75), (false, 79), (false, 83), (false, 87), (false, 88), (true, 89)]) (by kernel_rfl) (by kernel_rfl) (by kernel_rfl) (by kernel_rfl) (by intro c a d v w h; cases d <;> exact h) ?_
  intro W1 K D
  have PS := Lib.hid (PsOk.nil W1 w.heap.size X)
  refine wpS_run 38 [0, 1, 2, 3, 4, 5, 6, 7, 8, 9, 10, 11, 12, 13, 14, 15, 16, 17, 18, 19, 20, 21, 22, 23, 24, 25] offCtl [0, 1, 2, 4, 5, 6, 8, 9, 10, 12, 13, 14, 16, 17, 18, 20, 21, 22, 24, 25, 26, 28, 29, 30, 32, 33, 34, 36, 37, 38, 40, 41, 42, 44, 45, 46, 48, 49, 50, 52, 53, 54, 56, 57, 58, 60, 61, 62, 64, 65, 66, 68, 69, 70, 72, 73, 74, 76, 77, 78, 80, 81, 82, 84, 85, 86] _ ⟨#[.pointer (some ⟨X, 0, none⟩), undef, .slice none 0 0, .pointer (some ⟨X, 0, none⟩), .pointer (some ⟨X, 0, none⟩), .pointer (some ⟨X, 0, none⟩), undef, .pointer (some ⟨X, 0, none⟩), .pointer (some ⟨X, 0, none⟩), .pointer (some ⟨X, 1, none⟩), undef, .pointer (some ⟨X, 0, none⟩), .pointer (some ⟨X, 0, none⟩), .pointer (some ⟨X, 2, none⟩), undef, .pointer (some ⟨X, 0, none⟩), .pointer (some ⟨X, 0, none⟩), .pointer (some ⟨X, 3, none⟩), undef, .pointer (some ⟨X, 0, none⟩), .pointer (some ⟨X, 0, none⟩), .pointer (some ⟨X, 4, none⟩), undef, .pointer (some ⟨X, 0, none⟩), .pointer (some ⟨X, 0, none⟩), .pointer (some ⟨X, 5, none⟩), undef, .pointer (some ⟨X, 0, none⟩), .pointer (some ⟨X, 0, none⟩), .pointer (some ⟨X, 6, none⟩), undef, .pointer (some ⟨X, 0, none⟩), .pointer (some ⟨X, 0, none⟩), .pointer (some ⟨X, 7, none⟩), undef, .pointer (some ⟨X, 0, none⟩), .pointer (some ⟨X, 0, none⟩), .pointer (some ⟨X, 8, none⟩), undef, .pointer (some ⟨X, 0, none⟩), .pointer (some ⟨X, 0, none⟩), .pointer (some ⟨X, 9, none⟩), undef, .pointer (some ⟨X, 0, none⟩), .pointer (some ⟨X, 0, none⟩), .pointer (some ⟨X, 10, none⟩), undef, .pointer (some ⟨X, 0, none⟩), .pointer (some ⟨X, 0, none⟩), .pointer (some ⟨X, 11, none⟩), undef, .pointer (some ⟨X, 0, none⟩), .pointer (some ⟨X, 0, none⟩), .pointer (some ⟨X, 12, none⟩), undef, .pointer (some ⟨X, 0, none⟩), .pointer (some ⟨X, 0, none⟩), .pointer (some ⟨X, 13, none⟩), undef, .pointer (some ⟨X, 0, none⟩), .pointer (some ⟨X, 0, none⟩), .pointer (some ⟨X, 14, none⟩), undef, .pointer (some ⟨X, 0, none⟩), .pointer (some ⟨X, 0, none⟩), .pointer (some ⟨X, 15, none⟩), undef, .pointer (some ⟨X, 0, none⟩), .pointer (some ⟨X, 0, none⟩), .pointer (some ⟨X, 16, none⟩), undef, .pointer (some ⟨X, 0, none⟩), .pointer (some ⟨X, 0, none⟩), .pointer (some ⟨X, 17, none⟩), undef, .pointer (some ⟨X, 0, none⟩), .pointer (some ⟨X, 0, none⟩), .pointer (some ⟨X, 18, none⟩), undef, .pointer (some ⟨X, 0, none⟩), .pointer (some ⟨X, 0, none⟩), .pointer (some ⟨X, 19, none⟩), undef, .pointer (some ⟨X, 0, none⟩), .pointer (some ⟨X, 0, none⟩), .pointer (some ⟨X, 20, none⟩), undef, .pointer (some ⟨X, 0, none⟩), .pointer (some ⟨X, 0, none⟩), .pointer (some ⟨X, 21, none⟩), undef, undef], []⟩ (by kernel_rfl) ?_
  refine wpS_chain rfl ?_
  go_wp2_with (go_at_call 130; go_loud (refine (at_u16 X 0 0 _).mono ?_; rintro r W2 ⟨b0, rfl, hb, hok, hw⟩; replace PS := Lib.hid (PS.out.snoc hw hok (Nat.le_trans D.out.size hb) rfl); replace D := Lib.hid (gr_tr D.out hw); replace K := Lib.hid (K.out.below hw); clear hb hok hw))
  refine ⟨K.out, ?_⟩
  refine wpS_chain rfl ?_
  go_wp2_with (go_at_call 130; go_loud (refine (at_u16 X 1 2 _).mono ?_; rintro r W3 ⟨b1, rfl, hb, hok, hw⟩; replace PS := Lib.hid (PS.out.snoc hw hok (Nat.le_trans D.out.size hb) rfl); replace D := Lib.hid (gr_tr D.out hw); replace K := Lib.hid (K.out.below hw); clear hb hok hw))
  refine ⟨K.out, ?_⟩
  refine wpS_chain rfl ?_
  go_wp2_with (go_at_call 131; go_loud (refine (at_u8 X 2 77 _).mono ?_; rintro r W4 ⟨b2, rfl, hb, hok, hw⟩; replace PS := Lib.hid (PS.out.snoc hw hok (Nat.le_trans D.out.size hb) rfl); replace D := Lib.hid (gr_tr D.out hw); replace K := Lib.hid (K.out.below hw); clear hb hok hw))
  refine ⟨K.out, ?_⟩
  refine wpS_chain rfl ?_
  go_wp2_with (go_at_call 130; go_loud (refine (at_u16 X 3 78 _).mono ?_; rintro r W5 ⟨b3, rfl, hb, hok, hw⟩; replace PS := Lib.hid (PS.out.snoc hw hok (Nat.le_trans D.out.size hb) rfl); replace D := Lib.hid (gr_tr D.out hw); replace K := Lib.hid (K.out.below hw); clear hb hok hw))
  refine ⟨K.out, ?_⟩
  refine wpS_chain rfl ?_
  go_wp2_with (go_at_call 126; go_loud (refine (at_u32 X 4 80 _).mono ?_; rintro r W6 ⟨b4, rfl, hb, hok, hw⟩; replace PS := Lib.hid (PS.out.snoc hw hok (Nat.le_trans D.out.size hb) rfl); replace D := Lib.hid (gr_tr D.out hw); replace K := Lib.hid (K.out.below hw); clear hb hok hw))
  refine ⟨K.out, ?_⟩
  refine wpS_chain rfl ?_
  go_wp2_with (go_at_call 130; go_loud (refine (at_u16 X 5 256 _).mono ?_; rintro r W7 ⟨b5, rfl, hb, hok, hw⟩; replace PS := Lib.hid (PS.out.snoc hw hok (Nat.le_trans D.out.size hb) rfl); replace D := Lib.hid (gr_tr D.out hw); replace K := Lib.hid (K.out.below hw); clear hb hok hw))
  refine ⟨K.out, ?_⟩
  refine wpS_chain rfl ?_
  go_wp2_with (go_at_call 131; go_loud (refine (at_u8 X 6 258 _).mono ?_; rintro r W8 ⟨b6, rfl, hb, hok, hw⟩; replace PS := Lib.hid (PS.out.snoc hw hok (Nat.le_trans D.out.size hb) rfl); replace D := Lib.hid (gr_tr D.out hw); replace K := Lib.hid (K.out.below hw); clear hb hok hw))
  refine ⟨K.out, ?_⟩
  refine wpS_chain rfl ?_
  go_wp2_with (go_at_call 131; go_loud (refine (at_u8 X 7 259 _).mono ?_; rintro r W9 ⟨b7, rfl, hb, hok, hw⟩; replace PS := Lib.hid (PS.out.snoc hw hok (Nat.le_trans D.out.size hb) rfl); replace D := Lib.hid (gr_tr D.out hw); replace K := Lib.hid (K.out.below hw); clear hb hok hw))
  refine ⟨K.out, ?_⟩
  refine wpS_chain rfl ?_
  go_wp2_with (go_at_call 131; go_loud (refine (at_u8 X 8 260 _).mono ?_; rintro r W10 ⟨b8, rfl, hb, hok, hw⟩; replace PS := Lib.hid (PS.out.snoc hw hok (Nat.le_trans D.out.size hb) rfl); replace D := Lib.hid (gr_tr D.out hw); replace K := Lib.hid (K.out.below hw); clear hb hok hw))
  refine ⟨K.out, ?_⟩
  refine wpS_chain rfl ?_
  go_wp2_with (go_at_call 131; go_loud (refine (at_u8 X 9 261 _).mono ?_; rintro r W11 ⟨b9, rfl, hb, hok, hw⟩; replace PS := Lib.hid (PS.out.snoc hw hok (Nat.le_trans D.out.size hb) rfl); replace D := Lib.hid (gr_tr D.out hw); replace K := Lib.hid (K.out.below hw); clear hb hok hw))
  refine ⟨K.out, ?_⟩
  refine wpS_chain rfl ?_
  go_wp2_with (go_at_call 131; go_loud (refine (at_u8 X 10 262 _).mono ?_; rintro r W12 ⟨b10, rfl, hb, hok, hw⟩; replace PS := Lib.hid (PS.out.snoc hw hok (Nat.le_trans D.out.size hb) rfl); replace D := Lib.hid (gr_tr D.out hw); replace K := Lib.hid (K.out.below hw); clear hb hok hw))
  refine ⟨K.out, ?_⟩
  refine wpS_chain rfl ?_
  go_wp2_with (go_at_call 131; go_loud (refine (at_u8 X 11 263 _).mono ?_; rintro r W13 ⟨b11, rfl, hb, hok, hw⟩; replace PS := Lib.hid (PS.out.snoc hw hok (Nat.le_trans D.out.size hb) rfl); replace D := Lib.hid (gr_tr D.out hw); replace K := Lib.hid (K.out.below hw); clear hb hok hw))
  refine ⟨K.out, ?_⟩
  refine wpS_chain rfl ?_
  go_wp2_with (go_at_call 130; go_loud (refine (at_u16 X 12 320 _).mono ?_; rintro r W14 ⟨b12, rfl, hb, hok, hw⟩; replace PS := Lib.hid (PS.out.snoc hw hok (Nat.le_trans D.out.size hb) rfl); replace D := Lib.hid (gr_tr D.out hw); replace K := Lib.hid (K.out.below hw); clear hb hok hw))
  refine ⟨K.out, ?_⟩
  refine wpS_chain rfl ?_
  go_wp2_with (go_at_call 131; go_loud (refine (at_u8 X 13 512 _).mono ?_; rintro r W15 ⟨b13, rfl, hb, hok, hw⟩; replace PS := Lib.hid (PS.out.snoc hw hok (Nat.le_trans D.out.size hb) rfl); replace D := Lib.hid (gr_tr D.out hw); replace K := Lib.hid (K.out.below hw); clear hb hok hw))
  refine ⟨K.out, ?_⟩
  refine wpS_chain rfl ?_
  go_wp2_with (go_at_call 131; go_loud (refine (at_u8 X 14 513 _).mono ?_; rintro r W16 ⟨b14, rfl, hb, hok, hw⟩; replace PS := Lib.hid (PS.out.snoc hw hok (Nat.le_trans D.out.size hb) rfl); replace D := Lib.hid (gr_tr D.out hw); replace K := Lib.hid (K.out.below hw); clear hb hok hw))
  refine ⟨K.out, ?_⟩
  refine wpS_chain rfl ?_
  go_wp2_with (go_at_call 130; go_loud (refine (at_u16 X 15 514 _).mono ?_; rintro r W17 ⟨b15, rfl, hb, hok, hw⟩; replace PS := Lib.hid (PS.out.snoc hw hok (Nat.le_trans D.out.size hb) rfl); replace D := Lib.hid (gr_tr D.out hw); replace K := Lib.hid (K.out.below hw); clear hb hok hw))
  refine ⟨K.out, ?_⟩
  refine wpS_chain rfl ?_
  go_wp2_with (go_at_call 126; go_loud (refine (at_u32 X 16 516 _).mono ?_; rintro r W18 ⟨b16, rfl, hb, hok, hw⟩; replace PS := Lib.hid (PS.out.snoc hw hok (Nat.le_trans D.out.size hb) rfl); replace D := Lib.hid (gr_tr D.out hw); replace K := Lib.hid (K.out.below hw); clear hb hok hw))
  refine ⟨K.out, ?_⟩
  refine wpS_chain rfl ?_
  go_wp2_with (go_at_call 130; go_loud (refine (at_u16 X 17 520 _).mono ?_; rintro r W19 ⟨b17, rfl, hb, hok, hw⟩; replace PS := Lib.hid (PS.out.snoc hw hok (Nat.le_trans D.out.size hb) rfl); replace D := Lib.hid (gr_tr D.out hw); replace K := Lib.hid (K.out.below hw); clear hb hok hw))
  refine ⟨K.out, ?_⟩
  refine wpS_chain rfl ?_
  go_wp2_with (go_at_call 131; go_loud (refine (at_u8 X 18 525 _).mono ?_; rintro r W20 ⟨b18, rfl, hb, hok, hw⟩; replace PS := Lib.hid (PS.out.snoc hw hok (Nat.le_trans D.out.size hb) rfl); replace D := Lib.hid (gr_tr D.out hw); replace K := Lib.hid (K.out.below hw); clear hb hok hw))
  refine ⟨K.out, ?_⟩
  refine wpS_chain rfl ?_
  go_wp2_with (go_at_call 130; go_loud (refine (at_u16 X 19 526 _).mono ?_; rintro r W21 ⟨b19, rfl, hb, hok, hw⟩; replace PS := Lib.hid (PS.out.snoc hw hok (Nat.le_trans D.out.size hb) rfl); replace D := Lib.hid (gr_tr D.out hw); replace K := Lib.hid (K.out.below hw); clear hb hok hw))
  refine ⟨K.out, ?_⟩
  refine wpS_chain rfl ?_
  go_wp2_with (go_at_call 130; go_loud (refine (at_u16 X 20 528 _).mono ?_; rintro r W22 ⟨b20, rfl, hb, hok, hw⟩; replace PS := Lib.hid (PS.out.snoc hw hok (Nat.le_trans D.out.size hb) rfl); replace D := Lib.hid (gr_tr D.out hw); replace K := Lib.hid (K.out.below hw); clear hb hok hw))
  refine ⟨K.out, ?_⟩
  refine wpS_chain rfl ?_
  go_wp2_with (go_at_call 126; go_loud (refine (at_u32 X 21 536 _).mono ?_; rintro r W23 ⟨b21, rfl, hb, hok, hw⟩; replace PS := Lib.hid (PS.out.snoc hw hok (Nat.le_trans D.out.size hb) rfl); replace D := Lib.hid (gr_tr D.out hw); replace K := Lib.hid (K.out.below hw); clear hb hok hw))
  refine ⟨K.out, ?_⟩
  refine wpS_chain rfl ?_
  obtain ⟨ie, i1, i2, i3, -⟩ := placesOk.info
  refine wpList_buildSlice rfl 152 224 22 _ rfl (([⟨0, .u16, X, 0, b0⟩, ⟨2, .u16, X, 1, b1⟩, ⟨77, .u8, X, 2, b2⟩, ⟨78, .u16, X, 3, b3⟩, ⟨80, .u32, X, 4, b4⟩, ⟨256, .u16, X, 5, b5⟩, ⟨258, .u8, X, 6, b6⟩, ⟨259, .u8, X, 7, b7⟩, ⟨260, .u8, X, 8, b8⟩, ⟨261, .u8, X, 9, b9⟩, ⟨262, .u8, X, 10, b10⟩, ⟨263, .u8, X, 11, b11⟩, ⟨320, .u16, X, 12, b12⟩, ⟨512, .u8, X, 13, b13⟩, ⟨513, .u8, X, 14, b14⟩, ⟨514, .u16, X, 15, b15⟩, ⟨516, .u32, X, 16, b16⟩, ⟨520, .u16, X, 17, b17⟩, ⟨525, .u8, X, 18, b18⟩, ⟨526, .u16, X, 19, b19⟩, ⟨528, .u16, X, 20, b20⟩, ⟨536, .u32, X, 21, b21⟩] : List Pl).flatMap Pl.cells).toArray ie _ placesOk.under i1 i2 (by rw [i3]; decide) (by rw [i3]; decide) (by rw [i3]; kernel_rfl) ?_
  have DSZ := Lib.hid D.out.size
  have SV := Lib.hid (SliceV.of_cells (f := Pl.cells) W23 [⟨0, .u16, X, 0, b0⟩, ⟨2, .u16, X, 1, b1⟩, ⟨77, .u8, X, 2, b2⟩, ⟨78, .u16, X, 3, b3⟩, ⟨80, .u32, X, 4, b4⟩, ⟨256, .u16, X, 5, b5⟩, ⟨258, .u8, X, 6, b6⟩, ⟨259, .u8, X, 7, b7⟩, ⟨260, .u8, X, 8, b8⟩, ⟨261, .u8, X, 9, b9⟩, ⟨262, .u8, X, 10, b10⟩, ⟨263, .u8, X, 11, b11⟩, ⟨320, .u16, X, 12, b12⟩, ⟨512, .u8, X, 13, b13⟩, ⟨513, .u8, X, 14, b14⟩, ⟨514, .u16, X, 15, b15⟩, ⟨516, .u32, X, 16, b16⟩, ⟨520, .u16, X, 17, b17⟩, ⟨525, .u8, X, 18, b18⟩, ⟨526, .u16, X, 19, b19⟩, ⟨528, .u16, X, 20, b20⟩, ⟨536, .u32, X, 21, b21⟩] ((([⟨0, .u16, X, 0, b0⟩, ⟨2, .u16, X, 1, b1⟩, ⟨77, .u8, X, 2, b2⟩, ⟨78, .u16, X, 3, b3⟩, ⟨80, .u32, X, 4, b4⟩, ⟨256, .u16, X, 5, b5⟩, ⟨258, .u8, X, 6, b6⟩, ⟨259, .u8, X, 7, b7⟩, ⟨260, .u8, X, 8, b8⟩, ⟨261, .u8, X, 9, b9⟩, ⟨262, .u8, X, 10, b10⟩, ⟨263, .u8, X, 11, b11⟩, ⟨320, .u16, X, 12, b12⟩, ⟨512, .u8, X, 13, b13⟩, ⟨513, .u8, X, 14, b14⟩, ⟨514, .u16, X, 15, b15⟩, ⟨516, .u32, X, 16, b16⟩, ⟨520, .u16, X, 17, b17⟩, ⟨525, .u8, X, 18, b18⟩, ⟨526, .u16, X, 19, b19⟩, ⟨528, .u16, X, 20, b20⟩, ⟨536, .u32, X, 21, b21⟩] : List Pl).flatMap Pl.cells).toArray) 224 22 rfl (by omega) rfl)
  replace PS := Lib.hid (PS.out.below (gr_alloc W23 (.cells ((([⟨0, .u16, X, 0, b0⟩, ⟨2, .u16, X, 1, b1⟩, ⟨77, .u8, X, 2, b2⟩, ⟨78, .u16, X, 3, b3⟩, ⟨80, .u32, X, 4, b4⟩, ⟨256, .u16, X, 5, b5⟩, ⟨258, .u8, X, 6, b6⟩, ⟨259, .u8, X, 7, b7⟩, ⟨260, .u8, X, 8, b8⟩, ⟨261, .u8, X, 9, b9⟩, ⟨262, .u8, X, 10, b10⟩, ⟨263, .u8, X, 11, b11⟩, ⟨320, .u16, X, 12, b12⟩, ⟨512, .u8, X, 13, b13⟩, ⟨513, .u8, X, 14, b14⟩, ⟨514, .u16, X, 15, b15⟩, ⟨516, .u32, X, 16, b16⟩, ⟨520, .u16, X, 17, b17⟩, ⟨525, .u8, X, 18, b18⟩, ⟨526, .u16, X, 19, b19⟩, ⟨528, .u16, X, 20, b20⟩, ⟨536, .u32, X, 21, b21⟩] : List Pl).flatMap Pl.cells).toArray) 224)))
  replace D := Lib.hid (gr_tr D.out (gr_alloc W23 (.cells ((([⟨0, .u16, X, 0, b0⟩, ⟨2, .u16, X, 1, b1⟩, ⟨77, .u8, X, 2, b2⟩, ⟨78, .u16, X, 3, b3⟩, ⟨80, .u32, X, 4, b4⟩, ⟨256, .u16, X, 5, b5⟩, ⟨258, .u8, X, 6, b6⟩, ⟨259, .u8, X, 7, b7⟩, ⟨260, .u8, X, 8, b8⟩, ⟨261, .u8, X, 9, b9⟩, ⟨262, .u8, X, 10, b10⟩, ⟨263, .u8, X, 11, b11⟩, ⟨320, .u16, X, 12, b12⟩, ⟨512, .u8, X, 13, b13⟩, ⟨513, .u8, X, 14, b14⟩, ⟨514, .u16, X, 15, b15⟩, ⟨516, .u32, X, 16, b16⟩, ⟨520, .u16, X, 17, b17⟩, ⟨525, .u8, X, 18, b18⟩, ⟨526, .u16, X, 19, b19⟩, ⟨528, .u16, X, 20, b20⟩, ⟨536, .u32, X, 21, b21⟩] : List Pl).flatMap Pl.cells).toArray) 224)))
  replace K := Lib.hid (K.out.below (gr_alloc W23 (.cells ((([⟨0, .u16, X, 0, b0⟩, ⟨2, .u16, X, 1, b1⟩, ⟨77, .u8, X, 2, b2⟩, ⟨78, .u16, X, 3, b3⟩, ⟨80, .u32, X, 4, b4⟩, ⟨256, .u16, X, 5, b5⟩, ⟨258, .u8, X, 6, b6⟩, ⟨259, .u8, X, 7, b7⟩, ⟨260, .u8, X, 8, b8⟩, ⟨261, .u8, X, 9, b9⟩, ⟨262, .u8, X, 10, b10⟩, ⟨263, .u8, X, 11, b11⟩, ⟨320, .u16, X, 12, b12⟩, ⟨512, .u8, X, 13, b13⟩, ⟨513, .u8, X, 14, b14⟩, ⟨514, .u16, X, 15, b15⟩, ⟨516, .u32, X, 16, b16⟩, ⟨520, .u16, X, 17, b17⟩, ⟨525, .u8, X, 18, b18⟩, ⟨526, .u16, X, 19, b19⟩, ⟨528, .u16, X, 20, b20⟩, ⟨536, .u32, X, 21, b21⟩] : List Pl).flatMap Pl.cells).toArray) 224)))
  generalize (World.alloc W23 (.cells ((([⟨0, .u16, X, 0, b0⟩, ⟨2, .u16, X, 1, b1⟩, ⟨77, .u8, X, 2, b2⟩, ⟨78, .u16, X, 3, b3⟩, ⟨80, .u32, X, 4, b4⟩, ⟨256, .u16, X, 5, b5⟩, ⟨258, .u8, X, 6, b6⟩, ⟨259, .u8, X, 7, b7⟩, ⟨260, .u8, X, 8, b8⟩, ⟨261, .u8, X, 9, b9⟩, ⟨262, .u8, X, 10, b10⟩, ⟨263, .u8, X, 11, b11⟩, ⟨320, .u16, X, 12, b12⟩, ⟨512, .u8, X, 13, b13⟩, ⟨513, .u8, X, 14, b14⟩, ⟨514, .u16, X, 15, b15⟩, ⟨516, .u32, X, 16, b16⟩, ⟨520, .u16, X, 17, b17⟩, ⟨525, .u8, X, 18, b18⟩, ⟨526, .u16, X, 19, b19⟩, ⟨528, .u16, X, 20, b20⟩, ⟨536, .u32, X, 21, b21⟩] : List Pl).flatMap Pl.cells).toArray) 224)) = WE at *
  obtain ⟨pv, hpv⟩ : ∃ pv, Value.slice (some ⟨World.heap W23 |>.size, 0, none⟩) 22 22 = pv := ⟨_, rfl⟩
  have NV := Lib.hid (show NewS w.heap.size pv from fun g o n c e => by rw [← hpv] at e; cases e; exact DSZ.out)
  rw [hpv] at SV ⊢
  clear hpv
  refine ⟨K.out, ?_⟩
  refine wpS_run (r := []) 38 [0, 1, 2, 3, 4, 5, 6, 7, 8, 9, 10, 11, 12, 13, 14, 15, 16, 17, 18, 19, 20, 21, 22, 23, 24, 25] offCtl [89] _ _ rfl ?_
  unfold wpS
  go_wp2
  go_ret
  have hps := PS.out
  simp only [List.nil_append, List.cons_append] at hps
  exact ⟨pv, _, rfl, SV.out, rfl, hps, NV.out, D.out⟩
end Go.Proofs.YthnnopjakpjoeaaDoor
