/- Package logpage: EncodeNotice, EncodeError. Printed by genlogd.py. -/
import Derived.Test.YthnnopjakpjoeaaDoorLogC
namespace Go.Proofs.YthnnopjakpjoeaaDoor
open Go.RowKit Lg
set_option linter.unusedVariables false
set_option linter.unusedSimpArgs false
namespace Lg
def noOk (x : No) : Bool := decide (x.kind.toNat ≤ 3)
def noE (x : No) : Int := if noOk x then 0 else 2
def noR (x : No) : List (BitVec 8) := if noOk x then noB x else []
end Lg
set_option maxHeartbeats 1600000 in
set_option maxRecDepth 20000 in
theorem EncNo_at (x : No) (e : Int) (B : List (BitVec 8)) (w : World) (he : noE x = e) (hB : noR x = B) :
    Calls Tryd.prog 51 #[.agg (No.cells x).toArray] w fun r w' => ∃ u, r = .returned (.tuple #[u, .int .i64 e]) ∧ w'.ownsRow w.heap.size 5 1 u B.length (by8 B) ∧ Below w.heap.size w w' := by
  unfold noE at he
  unfold noR at hB
  unfold noOk at he hB
  rw [show (No.cells x).toArray = #[.int .u64 (uv x.count), .int .u8 (uv x.kind), .int .u8 (uv x.avail), .int .u32 (uv x.nsid)] from rfl]
  by_cases hk : x.kind.toNat ≤ 3
  · rw [decide_eq_true hk] at he hB
    simp only [if_true] at he hB
    subst he
    have HB := Lib.hid (show pageB 64 (noFl x) = B from hB)
    have PL := Lib.hid (no_len x)
    have hq : decide (3 < uv x.kind) = false := decide_eq_false (by have : uv x.kind = x.kind.toNat := rfl; omega)
    clear hk hB
    obtain ⟨W, hW⟩ : ∃ W, W = w.alloc (.cells #[.int .u64 (uv x.count), .int .u8 (uv x.kind), .int .u8 (uv x.avail), .int .u32 (uv x.nsid)] 113) := ⟨_, rfl⟩
    have D := Lib.hid (show Below w.heap.size w W by rw [hW]; exact gr_alloc w _)
    have X := Lib.hid (show W.heap[w.heap.size]? = some (.cells #[.int .u64 (uv x.count), .int .u8 (uv x.kind), .int .u8 (uv x.avail), .int .u32 (uv x.nsid)] 113 (0, 0)) by rw [hW]; exact heap_alloc_new w _)
    have p1 : W.cell? ⟨w.heap.size, 1, none⟩ = some (.int .u8 (uv x.kind)) := (cell_of_row _ _ 1 _ _ _ X.out).trans rfl
    have q0 : ∀ y : KeepT nowhere W, y.val.cell? ⟨w.heap.size, 0, none⟩ = some (.int .u64 (uv x.count)) := fun y => y.cell ((cell_of_row _ _ 0 _ _ _ X.out).trans rfl) id
    have q1 : ∀ y : KeepT nowhere W, y.val.cell? ⟨w.heap.size, 1, none⟩ = some (.int .u8 (uv x.kind)) := fun y => y.cell ((cell_of_row _ _ 1 _ _ _ X.out).trans rfl) id
    have q2 : ∀ y : KeepT nowhere W, y.val.cell? ⟨w.heap.size, 2, none⟩ = some (.int .u8 (uv x.avail)) := fun y => y.cell ((cell_of_row _ _ 2 _ _ _ X.out).trans rfl) id
    have q3 : ∀ y : KeepT nowhere W, y.val.cell? ⟨w.heap.size, 3, none⟩ = some (.int .u32 (uv x.nsid)) := fun y => y.cell ((cell_of_row _ _ 3 _ _ _ X.out).trans rfl) id
    have HW := Lib.hid hW
    clear hW
    go_enter Tryd.func51, Tryd.ntmps51
    go_upto_region 1 with (fail)
    rw [← HW.out]
    go_upto_region 3 with (fail)
    refine wp_region_planW nowhere [(true, 0), (true, 1), (true, 3), (true, 4), (true, 5), (true, 7), (true, 8), (true, 9), (true, 12), (true, 13), (true, 14), (false, 2), (false, 6), (false, 10), (false, 11), (false, 15), (false, 16), (false, 17), (true, 18), (true, 19)] (by kernel_rfl) (by kernel_rfl) (by intro c a d v w h; cases d <;> exact h) ?_
    intro W1 K1 C1
    repeat (refine wpS_firm rfl (fun K hK => ?_); simp only [Keep]; go_simp; refine hK _ ?_; clear hK K)
    refine wpS_chain rfl ?_
    go_wp2_with (go_at_call 100; go_loud (refine (f_any _ _ _).mono ?_; rintro r X2 ⟨rfl, hw⟩; have K2 := Lib.hid (K1.out.below hw); have C2 := Lib.hid (gr_tr C1.out hw); clear hw))
    refine ⟨K2.out, ?_⟩
    refine wpS_chain rfl ?_
    go_wp2_with (go_at_call 100; go_loud (refine (f_any _ _ _).mono ?_; rintro r X3 ⟨rfl, hw⟩; have K3 := Lib.hid (K2.out.below hw); have C3 := Lib.hid (gr_tr C2.out hw); clear hw))
    refine ⟨K3.out, ?_⟩
    refine wpS_chain rfl ?_
    go_wp2_with (go_at_call 100; go_loud (refine (f_any _ _ _).mono ?_; rintro r X4 ⟨rfl, hw⟩; have K4 := Lib.hid (K3.out.below hw); have C4 := Lib.hid (gr_tr C3.out hw); clear hw))
    refine ⟨K4.out, ?_⟩
    refine wpS_chain rfl ?_
    go_wp2_with (go_at_call 100; go_loud (refine (f_any _ _ _).mono ?_; rintro r X5 ⟨rfl, hw⟩; have K5 := Lib.hid (K4.out.below hw); have C5 := Lib.hid (gr_tr C4.out hw); clear hw))
    refine ⟨K5.out, ?_⟩
    refine wpS_chain rfl ?_
    go_wp2_with (go_at_call 100; go_loud (refine (f_any _ _ _).mono ?_; rintro r X6 ⟨rfl, hw⟩; have K6 := Lib.hid (K5.out.below hw); have C6 := Lib.hid (gr_tr C5.out hw); clear hw))
    refine ⟨K6.out, ?_⟩
    refine wpS_chain rfl ?_
    go_wp2
    refine ⟨K6.out.alloc _, ?_⟩
    refine wpS_chain rfl ?_
    have FV := Lib.hid (FieldsV.lit X6 #[.int .u64 (uv x.count), .int .i64 8, .int .u64 (uv x.kind), .int .i64 1, .int .u64 (uv x.avail), .int .i64 1, .int .u64 0, .int .i64 2, .int .u64 (uv x.nsid), .int .i64 4] 192 (noFl x) 5 rfl (by simp [fCells, noFl, uw8, uw32]; rfl) (by omega))
    go_wp2_with (go_at_call 101; go_loud (refine (page_any 64 64 _ (noFl x) B _ rfl FV.out (show (5 : Nat) ≤ 10000 by decide) (no_e x) (by omega) (by have := PL.out; omega) HB.out).mono ?_; rintro r X ⟨u, rfl, ho, hw⟩; have U := Lib.hid ho; have KE := Lib.hid ((K6.out.alloc _).below hw); have CE := Lib.hid (gr_tr (gr_tr C6.out (gr_alloc _ _)) hw); clear ho hw))
    refine ⟨KE.out, ?_⟩
    repeat (refine wpS_firm rfl (fun K hK => ?_); simp only [Keep]; go_simp; refine hK _ ?_; clear hK K)
    unfold wpS
    go_wp2
    go_ret2
    exact ⟨_, rfl, own_base U.out (Nat.le_trans D.out.size (Nat.le_trans C6.out.size (gr_alloc _ _).size)), gr_tr D.out CE.out⟩
  · rw [decide_eq_false hk] at he hB
    simp only [Bool.false_eq_true, if_false] at he hB
    subst he; subst hB
    have hq : decide (3 < uv x.kind) = true := decide_eq_true (by have : uv x.kind = x.kind.toNat := rfl; omega)
    go_enter Tryd.func51, Tryd.ntmps51
    go_wp2
    go_ret2
    exact ⟨_, rfl, World.ownsRow_nil _ _ _ _, gr_alloc _ _⟩
theorem stW_or (s : St) (h : s.typ.toNat ≤ 7) : ((BitVec.setWidth 64 s.code <<< 1 ||| BitVec.setWidth 64 s.typ <<< 9 ||| if s.more = true then 16384#64 else 0#64) ||| if s.never = true then 32768#64 else 0#64) = stW s := by
  have hc := s.code.isLt
  apply BitVec.eq_of_toNat_eq
  rw [stW_nat s h]
  unfold stN
  have e1 : (BitVec.setWidth 64 s.code <<< 1).toNat = 2 * s.code.toNat := by
    rw [BitVec.toNat_shiftLeft, BitVec.toNat_setWidth, Nat.mod_eq_of_lt (by omega : s.code.toNat < 2 ^ 64), Nat.shiftLeft_eq, Nat.mod_eq_of_lt (by omega)]; omega
  have e2 : (BitVec.setWidth 64 s.typ <<< 9).toNat = s.typ.toNat <<< 9 := by
    rw [BitVec.toNat_shiftLeft, BitVec.toNat_setWidth, Nat.mod_eq_of_lt (by omega : s.typ.toNat < 2 ^ 64), Nat.mod_eq_of_lt (by rw [Nat.shiftLeft_eq]; omega)]
  have e3 : s.typ.toNat <<< 9 = 512 * s.typ.toNat := by rw [Nat.shiftLeft_eq]; omega
  have o1 : 2 * s.code.toNat ||| s.typ.toNat <<< 9 = 512 * s.typ.toNat + 2 * s.code.toNat := by
    rw [Nat.or_comm, ← Nat.shiftLeft_add_eq_or_of_lt (by omega : 2 * s.code.toNat < 2 ^ 9), e3]
  have o2 : ∀ (n k b : Nat), n < 2 ^ k → n ||| b <<< k = n + b * 2 ^ k := by
    intro n k b hn
    rw [Nat.or_comm, ← Nat.shiftLeft_add_eq_or_of_lt hn, Nat.shiftLeft_eq]; omega
  rw [BitVec.toNat_or, BitVec.toNat_or, BitVec.toNat_or, e1, e2, o1]
  have m1 : (if s.more = true then 16384#64 else 0#64).toNat = (if s.more then 1 else 0) <<< 14 := by cases s.more <;> rfl
  have m2 : (if s.never = true then 32768#64 else 0#64).toNat = (if s.never then 1 else 0) <<< 15 := by cases s.never <;> rfl
  rw [m1, m2, o2 (512 * s.typ.toNat + 2 * s.code.toNat) 14 _ (by omega), o2 (512 * s.typ.toNat + 2 * s.code.toNat + (if s.more then 1 else 0) * 2 ^ 14) 15 _ (by cases s.more <;> simp <;> omega)]
  cases s.more <;> cases s.never <;> simp <;> omega
theorem bit_q (b : Bool) (n : Nat) (w : World) (k : Nat) (v : BitVec 64) (hn : n ≤ 63) (hv : (if b then BitVec.ofInt 64 (2 ^ n) else 0#64) = v) : Calls Tryd.prog 108 #[.bool b, .int .i64 n] (w.drewN k) fun e w' => e = .returned (.int .u64 (uv v)) ∧ ∃ m, w' = w.drewN m := by
  subst hv; exact Calls.quiet_of_same ((bit_any b n _ hn).mono fun _ _ h => ⟨h.1, h.2.symm⟩)
namespace Lg
def erOk (x : Er) : Bool := decide (x.st.typ.toNat ≤ 7)
def erE (x : Er) : Int := if erOk x then 0 else 2
def erR (x : Er) : List (BitVec 8) := if erOk x then erB x else []
end Lg
set_option maxHeartbeats 3200000 in
set_option maxRecDepth 20000 in
theorem EncEr_at (x : Er) (e : Int) (B : List (BitVec 8)) (w : World) (he : erE x = e) (hB : erR x = B) :
    Calls Tryd.prog 44 #[.agg (Er.cells x).toArray] w fun r w' => ∃ u, r = .returned (.tuple #[u, .int .i64 e]) ∧ w'.ownsRow w.heap.size 5 1 u B.length (by8 B) ∧ Below w.heap.size w w' := by
  unfold erE at he
  unfold erR at hB
  unfold erOk at he hB
  rw [show (Er.cells x).toArray = #[.int .u64 (uv x.count), .int .u16 (uv x.queue), .int .u16 (uv x.id), .int .u8 (uv x.st.typ), .int .u8 (uv x.st.code), .bool x.st.more, .bool x.st.never, .int .u16 (uv x.loc), .int .u64 (uv x.lba), .int .u32 (uv x.nsid), .int .u64 (uv x.spec)] from rfl]
  by_cases hk : x.st.typ.toNat ≤ 7
  · rw [decide_eq_true hk] at he hB
    simp only [if_true] at he hB
    subst he
    have HB := Lib.hid (show pageB 64 (erFl x) = B from hB)
    have PL := Lib.hid (er_len x hk)
    have HE := Lib.hid (er_e x hk)
    have hq : decide (7 < uv x.st.typ) = false := decide_eq_false (by have : uv x.st.typ = x.st.typ.toNat := rfl; omega)
    have HK := Lib.hid hk
    clear hk hB
    obtain ⟨W, hW⟩ : ∃ W, W = w.alloc (.cells #[.int .u64 (uv x.count), .int .u16 (uv x.queue), .int .u16 (uv x.id), .int .u8 (uv x.st.typ), .int .u8 (uv x.st.code), .bool x.st.more, .bool x.st.never, .int .u16 (uv x.loc), .int .u64 (uv x.lba), .int .u32 (uv x.nsid), .int .u64 (uv x.spec)] 57) := ⟨_, rfl⟩
    have D := Lib.hid (show Below w.heap.size w W by rw [hW]; exact gr_alloc w _)
    have X := Lib.hid (show W.heap[w.heap.size]? = some (.cells #[.int .u64 (uv x.count), .int .u16 (uv x.queue), .int .u16 (uv x.id), .int .u8 (uv x.st.typ), .int .u8 (uv x.st.code), .bool x.st.more, .bool x.st.never, .int .u16 (uv x.loc), .int .u64 (uv x.lba), .int .u32 (uv x.nsid), .int .u64 (uv x.spec)] 57 (0, 0)) by rw [hW]; exact heap_alloc_new w _)
    have p0 : W.cell? ⟨w.heap.size, 0, none⟩ = some (.int .u64 (uv x.count)) := (cell_of_row _ _ 0 _ _ _ X.out).trans rfl
    have p1 : W.cell? ⟨w.heap.size, 1, none⟩ = some (.int .u16 (uv x.queue)) := (cell_of_row _ _ 1 _ _ _ X.out).trans rfl
    have p2 : W.cell? ⟨w.heap.size, 2, none⟩ = some (.int .u16 (uv x.id)) := (cell_of_row _ _ 2 _ _ _ X.out).trans rfl
    have p3 : W.cell? ⟨w.heap.size, 3, none⟩ = some (.int .u8 (uv x.st.typ)) := (cell_of_row _ _ 3 _ _ _ X.out).trans rfl
    have p4 : W.cell? ⟨w.heap.size, 4, none⟩ = some (.int .u8 (uv x.st.code)) := (cell_of_row _ _ 4 _ _ _ X.out).trans rfl
    have p5 : W.cell? ⟨w.heap.size, 5, none⟩ = some (.bool x.st.more) := (cell_of_row _ _ 5 _ _ _ X.out).trans rfl
    have p6 : W.cell? ⟨w.heap.size, 6, none⟩ = some (.bool x.st.never) := (cell_of_row _ _ 6 _ _ _ X.out).trans rfl
    have p7 : W.cell? ⟨w.heap.size, 7, none⟩ = some (.int .u16 (uv x.loc)) := (cell_of_row _ _ 7 _ _ _ X.out).trans rfl
    have p8 : W.cell? ⟨w.heap.size, 8, none⟩ = some (.int .u64 (uv x.lba)) := (cell_of_row _ _ 8 _ _ _ X.out).trans rfl
    have p9 : W.cell? ⟨w.heap.size, 9, none⟩ = some (.int .u32 (uv x.nsid)) := (cell_of_row _ _ 9 _ _ _ X.out).trans rfl
    have p10 : W.cell? ⟨w.heap.size, 10, none⟩ = some (.int .u64 (uv x.spec)) := (cell_of_row _ _ 10 _ _ _ X.out).trans rfl
    have q0 : ∀ n (y : KeepT nowhere (W.drewN n)), y.val.cell? ⟨w.heap.size, 0, none⟩ = some (.int .u64 (uv x.count)) := fun n y => y.cell ((cell_of_row _ _ 0 _ _ _ (blk_below X.out (gr_drewN W n))).trans rfl) id
    have q1 : ∀ n (y : KeepT nowhere (W.drewN n)), y.val.cell? ⟨w.heap.size, 1, none⟩ = some (.int .u16 (uv x.queue)) := fun n y => y.cell ((cell_of_row _ _ 1 _ _ _ (blk_below X.out (gr_drewN W n))).trans rfl) id
    have q2 : ∀ n (y : KeepT nowhere (W.drewN n)), y.val.cell? ⟨w.heap.size, 2, none⟩ = some (.int .u16 (uv x.id)) := fun n y => y.cell ((cell_of_row _ _ 2 _ _ _ (blk_below X.out (gr_drewN W n))).trans rfl) id
    have q7 : ∀ n (y : KeepT nowhere (W.drewN n)), y.val.cell? ⟨w.heap.size, 7, none⟩ = some (.int .u16 (uv x.loc)) := fun n y => y.cell ((cell_of_row _ _ 7 _ _ _ (blk_below X.out (gr_drewN W n))).trans rfl) id
    have q8 : ∀ n (y : KeepT nowhere (W.drewN n)), y.val.cell? ⟨w.heap.size, 8, none⟩ = some (.int .u64 (uv x.lba)) := fun n y => y.cell ((cell_of_row _ _ 8 _ _ _ (blk_below X.out (gr_drewN W n))).trans rfl) id
    have q9 : ∀ n (y : KeepT nowhere (W.drewN n)), y.val.cell? ⟨w.heap.size, 9, none⟩ = some (.int .u32 (uv x.nsid)) := fun n y => y.cell ((cell_of_row _ _ 9 _ _ _ (blk_below X.out (gr_drewN W n))).trans rfl) id
    have q10 : ∀ n (y : KeepT nowhere (W.drewN n)), y.val.cell? ⟨w.heap.size, 10, none⟩ = some (.int .u64 (uv x.spec)) := fun n y => y.cell ((cell_of_row _ _ 10 _ _ _ (blk_below X.out (gr_drewN W n))).trans rfl) id
    have HW := Lib.hid hW
    clear hW
    go_enter Tryd.func44, Tryd.ntmps44
    go_upto_region 1 with (fail)
    rw [← HW.out]
    obtain ⟨v14, h14⟩ : ∃ v, (if x.st.more then BitVec.ofInt 64 (2 ^ 14) else 0#64) = v := ⟨_, rfl⟩
    obtain ⟨v15, h15⟩ : ∃ v, (if x.st.never then BitVec.ofInt 64 (2 ^ 15) else 0#64) = v := ⟨_, rfl⟩
    have H14 := Lib.hid h14; have H15 := Lib.hid h15
    clear h14 h15
    go_upto_region 3 with (fail)
    go_quiet ((go_at_call 108; first | exact bit_q x.st.more 14 _ _ v14 (by omega) H14.out | exact bit_q x.st.never 15 _ _ v15 (by omega) H15.out))
    rw [show ((BitVec.setWidth 64 x.st.code <<< 1 ||| BitVec.setWidth 64 x.st.typ <<< 9 ||| v14) ||| v15) = stW x.st from by rw [← H14.out, ← H15.out]; exact stW_or x.st HK.out]
    obtain ⟨S, hS⟩ : ∃ S, stW x.st = S := ⟨_, rfl⟩
    rw [hS]
    have HS := Lib.hid hS
    clear hS p0 p1 p2 p3 p4 p5 p6 p7 p8 p9 p10
    go_upto_region 4 with (fail)
    refine wp_region_planW nowhere [(true, 0), (true, 1), (true, 3), (true, 4), (true, 5), (true, 7), (true, 8), (true, 9), (true, 11), (true, 13), (true, 14), (true, 15), (true, 17), (true, 18), (true, 20), (true, 21), (true, 22), (true, 25), (true, 26), (false, 2), (false, 6), (false, 10), (false, 12), (false, 16), (false, 19), (false, 23), (false, 24), (false, 27), (false, 28), (false, 29), (true, 30), (true, 31)] (by kernel_rfl) (by kernel_rfl) (by intro c a d v w h; cases d <;> exact h) ?_
    intro W1 K1 C1
    repeat (refine wpS_firm rfl (fun K hK => ?_); simp only [Keep]; go_simp; refine hK _ ?_; clear hK K)
    refine wpS_chain rfl ?_
    go_wp2_with (go_at_call 100; go_loud (refine (f_any _ _ _).mono ?_; rintro r X2 ⟨rfl, hw⟩; have K2 := Lib.hid (K1.out.below hw); have C2 := Lib.hid (gr_tr C1.out hw); clear hw))
    refine ⟨K2.out, ?_⟩
    refine wpS_chain rfl ?_
    go_wp2_with (go_at_call 100; go_loud (refine (f_any _ _ _).mono ?_; rintro r X3 ⟨rfl, hw⟩; have K3 := Lib.hid (K2.out.below hw); have C3 := Lib.hid (gr_tr C2.out hw); clear hw))
    refine ⟨K3.out, ?_⟩
    refine wpS_chain rfl ?_
    go_wp2_with (go_at_call 100; go_loud (refine (f_any _ _ _).mono ?_; rintro r X4 ⟨rfl, hw⟩; have K4 := Lib.hid (K3.out.below hw); have C4 := Lib.hid (gr_tr C3.out hw); clear hw))
    refine ⟨K4.out, ?_⟩
    refine wpS_chain rfl ?_
    go_wp2_with (go_at_call 100; go_loud (refine (f_any _ _ _).mono ?_; rintro r X5 ⟨rfl, hw⟩; have K5 := Lib.hid (K4.out.below hw); have C5 := Lib.hid (gr_tr C4.out hw); clear hw))
    refine ⟨K5.out, ?_⟩
    refine wpS_chain rfl ?_
    go_wp2_with (go_at_call 100; go_loud (refine (f_any _ _ _).mono ?_; rintro r X6 ⟨rfl, hw⟩; have K6 := Lib.hid (K5.out.below hw); have C6 := Lib.hid (gr_tr C5.out hw); clear hw))
    refine ⟨K6.out, ?_⟩
    refine wpS_chain rfl ?_
    go_wp2_with (go_at_call 100; go_loud (refine (f_any _ _ _).mono ?_; rintro r X7 ⟨rfl, hw⟩; have K7 := Lib.hid (K6.out.below hw); have C7 := Lib.hid (gr_tr C6.out hw); clear hw))
    refine ⟨K7.out, ?_⟩
    refine wpS_chain rfl ?_
    go_wp2_with (go_at_call 100; go_loud (refine (f_any _ _ _).mono ?_; rintro r X8 ⟨rfl, hw⟩; have K8 := Lib.hid (K7.out.below hw); have C8 := Lib.hid (gr_tr C7.out hw); clear hw))
    refine ⟨K8.out, ?_⟩
    refine wpS_chain rfl ?_
    go_wp2_with (go_at_call 100; go_loud (refine (f_any _ _ _).mono ?_; rintro r X9 ⟨rfl, hw⟩; have K9 := Lib.hid (K8.out.below hw); have C9 := Lib.hid (gr_tr C8.out hw); clear hw))
    refine ⟨K9.out, ?_⟩
    refine wpS_chain rfl ?_
    go_wp2_with (go_at_call 100; go_loud (refine (f_any _ _ _).mono ?_; rintro r X10 ⟨rfl, hw⟩; have K10 := Lib.hid (K9.out.below hw); have C10 := Lib.hid (gr_tr C9.out hw); clear hw))
    refine ⟨K10.out, ?_⟩
    refine wpS_chain rfl ?_
    go_wp2
    refine ⟨K10.out.alloc _, ?_⟩
    refine wpS_chain rfl ?_
    have FV := Lib.hid (FieldsV.lit X10 #[.int .u64 (uv x.count), .int .i64 8, .int .u64 (uv x.queue), .int .i64 2, .int .u64 (uv x.id), .int .i64 2, .int .u64 (uv S), .int .i64 2, .int .u64 (uv x.loc), .int .i64 2, .int .u64 (uv x.lba), .int .i64 8, .int .u64 (uv x.nsid), .int .i64 4, .int .u64 0, .int .i64 4, .int .u64 (uv x.spec), .int .i64 8] 192 (erFl x) 9 rfl (by rw [← HS.out]; simp [fCells, erFl, uw16, uw32]; rfl) (by omega))
    go_wp2_with (go_at_call 101; go_loud (refine (page_any 64 64 _ (erFl x) B _ rfl FV.out (show (9 : Nat) ≤ 10000 by decide) (HE.out) (by omega) (by have := PL.out; omega) HB.out).mono ?_; rintro r X ⟨u, rfl, ho, hw⟩; have U := Lib.hid ho; have KE := Lib.hid ((K10.out.alloc _).below hw); have CE := Lib.hid (gr_tr (gr_tr C10.out (gr_alloc _ _)) hw); clear ho hw))
    refine ⟨KE.out, ?_⟩
    repeat (refine wpS_firm rfl (fun K hK => ?_); simp only [Keep]; go_simp; refine hK _ ?_; clear hK K)
    unfold wpS
    go_wp2
    go_ret2
    exact ⟨_, rfl, own_base U.out (Nat.le_trans D.out.size (Nat.le_trans (gr_drewN W _).size (Nat.le_trans C10.out.size (gr_alloc _ _).size))), gr_tr (gr_tr D.out (gr_drewN _ _)) CE.out⟩
  · rw [decide_eq_false hk] at he hB
    simp only [Bool.false_eq_true, if_false] at he hB
    subst he; subst hB
    have hq : decide (7 < uv x.st.typ) = true := decide_eq_true (by have : uv x.st.typ = x.st.typ.toNat := rfl; omega)
    go_enter Tryd.func44, Tryd.ntmps44
    go_wp2
    go_ret2
    exact ⟨_, rfl, World.ownsRow_nil _ _ _ _, gr_alloc _ _⟩
end Go.Proofs.YthnnopjakpjoeaaDoor
