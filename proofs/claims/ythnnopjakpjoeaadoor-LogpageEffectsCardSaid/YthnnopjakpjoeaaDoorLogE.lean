/- Package logpage: EncodeSlots. -/
import Derived.Test.YthnnopjakpjoeaaDoorLogC
import Derived.Test.YthnnopjakpjoeaaDoorPadA
import Derived.Deep.MidRow
import Derived.Lib.AtoiErrMem
namespace Go.Proofs.YthnnopjakpjoeaaDoor
open Go.RowKit Lg
set_option linter.unusedVariables false
set_option linter.unusedSimpArgs false
structure Slt where
  act : Int
  nxt : Int
  rv : List (List (BitVec 8))
def strV (s : List (BitVec 8)) : Value := .string (strOf s)
def Slt.cells (x : Slt) : List Value := .int .i64 x.act :: .int .i64 x.nxt :: x.rv.map strV
namespace Lg
def tS (s : List (BitVec 8)) : ByteArray := ⟨(Lib.trimSpace (strOf s).data.toList).toArray⟩
def rvOk (s : List (BitVec 8)) : Bool := decide (Wire.padE s 8 = 0) && ((tS s).toList == (strOf s).toList)
def sltH (x : Slt) : Bool := decide (1 ≤ x.act ∧ x.act ≤ 7 ∧ 0 ≤ x.nxt ∧ x.nxt ≤ 7)
def sltOk (x : Slt) : Bool := sltH x && x.rv.all rvOk
def sltP : Nat → List (List (BitVec 8)) → List (Nat × List (BitVec 8))
  | _, [] => []
  | i, s :: r => (if s = [] then [] else [(8 + 8 * i, Wire.pad s 8)]) ++ sltP (i + 1) r
def sltHd (x : Slt) : List WF := [(BitVec.ofNat 64 (x.act + 16 * x.nxt).toNat, 1)]
def sltB (x : Slt) : List (BitVec 8) := Lay.lays (pageB 512 (sltHd x)) (sltP 0 x.rv)
def sltE (x : Slt) : Int := if sltOk x then 0 else 2
def sltR (x : Slt) : List (BitVec 8) := if sltOk x then sltB x else []
theorem sltP_snoc (l : List (List (BitVec 8))) (s : List (BitVec 8)) : ∀ i, sltP i (l ++ [s]) = sltP i l ++ (if s = [] then [] else [(8 + 8 * (i + l.length), Wire.pad s 8)]) := by
  induction l with
  | nil => intro i; simp [sltP]
  | cons t l ih => intro i; rw [List.cons_append]; unfold sltP; rw [ih (i + 1), List.append_assoc, List.length_cons, show i + 1 + l.length = i + (l.length + 1) by omega]
end Lg
theorem str_nil : (strOf []).toList = [] := by decide +kernel
theorem str_ne {s : List (BitVec 8)} (h : s ≠ []) : (strOf s).toList.isEmpty = false := by
  have h2 := strOf_beq s []
  have h3 : (s == ([] : List (BitVec 8))) = false := by simpa using h
  rw [h3] at h2
  have h4 : (strOf []).toList = [] := str_nil
  rw [h4] at h2
  cases hl : (strOf s).toList with
  | nil => rw [hl] at h2; cases h2
  | cons y l => rfl
theorem own_at {w : World} {base : Nat} {e : TypeId} {size n : Nat} {v : Value} {xs : List Value} (h : w.ownsRow base e size v n xs) (hn : 0 < n) : ∃ g cap, v = .slice (some ⟨g, 0, none⟩) n cap ∧ base ≤ g ∧ n ≤ cap ∧ cap ≤ 9223372036854775807 := by
  obtain ⟨h1, h2⟩ := h
  rcases h2 with ⟨_, e⟩ | ⟨g, cap, cur, hv, hg, hh, r1, r2, _⟩
  · omega
  · exact ⟨g, cap, hv, hg, r1, r2⟩
theorem tab_lt {w : World} (h : Lib.TabIs Tryd.prog w "strings.asciiSpace" .u8 Lib.asciiSpaceTab) : True := trivial
theorem tab_below {w w' : World} {zs : List Int} (h : Lib.TabIs Tryd.prog w "strings.asciiSpace" .u8 zs) (hb : Below w.heap.size w w') : Lib.TabIs Tryd.prog w' "strings.asciiSpace" .u8 zs := by
  unfold Lib.TabIs World.var? at h ⊢
  cases hg : Tryd.prog.globalNamed "strings.asciiSpace" with
  | none => rw [hg] at h; cases h
  | some g =>
    rw [hg] at h
    simp only [Option.bind_some] at h ⊢
    have hlt : g < w.heap.size := by
      rcases Nat.lt_or_ge g w.heap.size with k | k
      · exact k
      · rw [Array.getElem?_eq_none k] at h; cases h
    rw [hb.block g hlt]; exact h
set_option maxRecDepth 100000 in
theorem wpList_index_str {ops : Array Oper} {rest : List Oper} {op : Oper} {a : Act} {w : World} {Q : Exit → Act → World → Prop} (hgd : op.guard = none) (x i : Operand) (ho : op.op = .index 140 x i) (rv : List (List (BitVec 8))) (hr : rv.length = 7)
    (hx : a.eval x = .agg (rv.map strV).toArray) (k : Nat) (hi : a.eval i = .int .i64 (k : Int)) (s : List (BitVec 8)) (hs : rv[k]? = some s)
    (h : wpList Tryd.prog ops Q rest (a.put op.dst (.string (strOf s))) w) : wpList Tryd.prog ops Q (op :: rest) a w := by
  refine wpList_plain hgd fun _ hK => ?_
  have hrun : (Instr.index 140 (.agg (rv.map strV).toArray) (.int .i64 (k : Int))).run Tryd.prog w = .ok (.string (strOf s)) w := by
    obtain ⟨hk, he⟩ := List.getElem?_eq_some_iff.1 hs
    match rv, hr with
    | [s0, s1, s2, s3, s4, s5, s6], _ =>
      have hk7 : k = 0 ∨ k = 1 ∨ k = 2 ∨ k = 3 ∨ k = 4 ∨ k = 5 ∨ k = 6 := by simp at hk; omega
      rcases hk7 with rfl | rfl | rfl | rfl | rfl | rfl | rfl <;> (subst he; rfl)
  unfold Oper.wp execOp
  simp only [ho, hx, hi, Sem.run_bind, Sem.run_pure, Result.andThen_ok, hrun]
  exact hK _ _ h
theorem ascii_plain {s : List (BitVec 8)} (h : Wire.plain s = true) : ∀ (j : Nat) b, (strOf s).data.toList[j]? = some b → b.toNat < 128 := by
  intro j b hb
  have h1 : (strOf s).data.toList = s.map UInt8.ofBitVec := rfl
  rw [h1, List.getElem?_map] at hb
  cases hj : s[j]? with
  | none => rw [hj] at hb; cases hb
  | some y =>
    rw [hj] at hb
    simp at hb
    subst hb
    have hy := List.mem_of_getElem? hj
    unfold Wire.plain at h
    rw [List.all_eq_true] at h
    have := h y hy
    unfold Wire.plainB at this
    rw [Bool.and_eq_true, decide_eq_true_eq, decide_eq_true_eq] at this
    have e : uv y = y.toNat := rfl
    show y.toNat < 128
    omega
theorem padE_zero {s : List (BitVec 8)} (h : Wire.padE s 8 = 0) : Wire.plain s = true ∧ s.length ≤ 8 ∧ (Wire.pad s 8).length = 8 := by
  have h0 := h
  unfold Wire.padE at h
  split at h
  · cases h
  · rename_i h1
    split at h
    · cases h
    · rename_i h2
      refine ⟨?_, by omega, ?_⟩
      · cases hp : Wire.plain s
        · exact absurd (.inr hp) h1
        · rfl
      · unfold Wire.pad
        rw [if_pos h0, List.length_append, List.length_replicate]
        show s.length + (8 - s.length) = 8
        omega
theorem trim_space (s : List (BitVec 8)) (w : World) (h : Wire.padE s 8 = 0) (ht : Lib.TabIs Tryd.prog w "strings.asciiSpace" .u8 Lib.asciiSpaceTab) :
    Calls Tryd.prog 124 #[.string (strOf s)] w fun e w' => e = .returned (.string (tS s)) ∧ Below w.heap.size w w' :=
  (Tryd.strings_TrimSpace (strOf s) w (by rw [str_size]; have := (padE_zero h).2.1; omega) (ascii_plain (padE_zero h).1) ht).mono fun e w' ⟨h1, h2⟩ => ⟨h1, by subst h2; exact Lib.bytesWorld_below _ _ _⟩
set_option maxHeartbeats 3200000 in
set_option maxRecDepth 20000 in
theorem EncS_at (x : Slt) (e : Int) (B : List (BitVec 8)) (w : World) (hx : x.rv.length = 7) (hr : ∀ s ∈ x.rv, s.length ≤ 1000000000) (ht : Lib.TabIs Tryd.prog w "strings.asciiSpace" .u8 Lib.asciiSpaceTab) (he : sltE x = e) (hB : sltR x = B) :
    Calls Tryd.prog 64 #[.agg (Slt.cells x).toArray] w fun r w' => ∃ u, r = .returned (.tuple #[u, .int .i64 e]) ∧ BytesV w' u B ∧ Below w.heap.size w w' := by
  obtain ⟨A, N, rv⟩ := x
  dsimp only at hx hr
  unfold sltE at he
  unfold sltR at hB
  unfold sltOk sltH at he hB
  dsimp only at he hB
  obtain ⟨s0, s1, s2, s3, s4, s5, s6, rfl⟩ : ∃ s0 s1 s2 s3 s4 s5 s6, rv = [s0, s1, s2, s3, s4, s5, s6] := by
    match rv, hx with
    | [s0, s1, s2, s3, s4, s5, s6], _ => exact ⟨_, _, _, _, _, _, _, rfl⟩
  rw [show (Slt.cells ⟨A, N, [s0, s1, s2, s3, s4, s5, s6]⟩).toArray = #[.int .i64 A, .int .i64 N, .string (strOf s0), .string (strOf s1), .string (strOf s2), .string (strOf s3), .string (strOf s4), .string (strOf s5), .string (strOf s6)] from rfl]
  obtain ⟨W, hW⟩ : ∃ W, W = w.alloc (.cells #[.int .i64 A, .int .i64 N, .string (strOf s0), .string (strOf s1), .string (strOf s2), .string (strOf s3), .string (strOf s4), .string (strOf s5), .string (strOf s6)] 142) := ⟨_, rfl⟩
  have D := Lib.hid (show Below w.heap.size w W by rw [hW]; exact gr_alloc w _)
  have X := Lib.hid (show W.heap[w.heap.size]? = some (.cells #[.int .i64 A, .int .i64 N, .string (strOf s0), .string (strOf s1), .string (strOf s2), .string (strOf s3), .string (strOf s4), .string (strOf s5), .string (strOf s6)] 142 (0, 0)) by rw [hW]; exact heap_alloc_new w _)
  have p0 : W.cell? ⟨w.heap.size, 0, none⟩ = some (.int .i64 A) := (cell_of_row _ _ 0 _ _ _ X.out).trans rfl
  have p1 : W.cell? ⟨w.heap.size, 1, none⟩ = some (.int .i64 N) := (cell_of_row _ _ 1 _ _ _ X.out).trans rfl
  have HW := Lib.hid hW
  have TAB := Lib.hid (tab_below ht D.out)
  clear hW ht
  by_cases a1 : A < 1
  · have d1 : decide (A < 1) = true := decide_eq_true a1
    rw [decide_eq_false (by omega : ¬ (1 ≤ A ∧ A ≤ 7 ∧ 0 ≤ N ∧ N ≤ 7)), Bool.false_and] at he hB
    simp only [Bool.false_eq_true, if_false] at he hB
    subst he; subst hB
    clear a1
    go_enter Tryd.func64, Tryd.ntmps64
    go_upto_region 1 with (fail)
    rw [← HW.out]
    go_wp2
    go_ret2
    exact ⟨_, rfl, BytesV.nil _, D.out⟩
  have d1 : decide (A < 1) = false := decide_eq_false a1
  by_cases a2 : 7 < A
  · have d2 : decide (7 < A) = true := decide_eq_true a2
    rw [decide_eq_false (by omega : ¬ (1 ≤ A ∧ A ≤ 7 ∧ 0 ≤ N ∧ N ≤ 7)), Bool.false_and] at he hB
    simp only [Bool.false_eq_true, if_false] at he hB
    subst he; subst hB
    clear a1 a2
    go_enter Tryd.func64, Tryd.ntmps64
    go_upto_region 1 with (fail)
    rw [← HW.out]
    go_wp2
    go_ret2
    exact ⟨_, rfl, BytesV.nil _, D.out⟩
  have d2 : decide (7 < A) = false := decide_eq_false a2
  by_cases a3 : N < 0
  · have d3 : decide (N < 0) = true := decide_eq_true a3
    rw [decide_eq_false (by omega : ¬ (1 ≤ A ∧ A ≤ 7 ∧ 0 ≤ N ∧ N ≤ 7)), Bool.false_and] at he hB
    simp only [Bool.false_eq_true, if_false] at he hB
    subst he; subst hB
    clear a1 a2 a3
    go_enter Tryd.func64, Tryd.ntmps64
    go_upto_region 1 with (fail)
    rw [← HW.out]
    go_wp2
    go_ret2
    exact ⟨_, rfl, BytesV.nil _, D.out⟩
  have d3 : decide (N < 0) = false := decide_eq_false a3
  by_cases a4 : 7 < N
  · have d4 : decide (7 < N) = true := decide_eq_true a4
    rw [decide_eq_false (by omega : ¬ (1 ≤ A ∧ A ≤ 7 ∧ 0 ≤ N ∧ N ≤ 7)), Bool.false_and] at he hB
    simp only [Bool.false_eq_true, if_false] at he hB
    subst he; subst hB
    clear a1 a2 a3 a4
    go_enter Tryd.func64, Tryd.ntmps64
    go_upto_region 1 with (fail)
    rw [← HW.out]
    go_wp2
    go_ret2
    exact ⟨_, rfl, BytesV.nil _, D.out⟩
  have d4 : decide (7 < N) = false := decide_eq_false a4
  rw [decide_eq_true (by omega : 1 ≤ A ∧ A ≤ 7 ∧ 0 ≤ N ∧ N ≤ 7), Bool.true_and] at he hB
  obtain ⟨v, hv⟩ : ∃ v, A + 16 * N = (v : Nat) := ⟨(A + 16 * N).toNat, by omega⟩
  have HV := Lib.hid (show 1 ≤ v ∧ v ≤ 119 by omega)
  have hA1 : 1 ≤ A := by omega
  have hA2 : A ≤ 7 := by omega
  have hN1 : 0 ≤ N := by omega
  have hN2 : N ≤ 7 := by omega
  clear a1 a2 a3 a4
  go_enter Tryd.func64, Tryd.ntmps64
  go_upto_region 1 with (fail)
  rw [← HW.out]
  go_upto_region 3 with (fail)
  clear d1 d2 d3 d4
  have HFE := Lib.hid (show Wire.allE [((BitVec.ofNat 64 v : BitVec 64), (1 : Int))] = 0 from (allE_iff _).2 (by
    rw [List.forall_mem_cons]
    exact ⟨(fit_any _ 1 (by decide) (by decide) (by rw [BitVec.toNat_ofNat]; have := HV.out; omega)).1, fun f h => by cases h⟩))
  have HFC := Lib.hid (show (Wire.cat [((BitVec.ofNat 64 v : BitVec 64), (1 : Int))]).length ≤ 512 by rw [cat_len0 _ HFE.out]; show 1 ≤ 512; decide)
  obtain ⟨PB, hPB⟩ : ∃ PB, pageB 512 [((BitVec.ofNat 64 v : BitVec 64), (1 : Int))] = PB := ⟨_, rfl⟩
  have HPB := Lib.hid hPB
  have PBL := Lib.hid (show PB.length = 512 by rw [← hPB]; exact pageB_len HFC.out)
  clear hPB
  go_upto_region 4 with (first
    | (go_at_call 100; go_loud (refine (f_any _ _ _).mono ?_; rintro r w2 ⟨rfl, hw⟩; have C2 := Lib.hid (gr_tr (Below.refl W.heap.size W) hw); clear hw))
    | (go_at_call 101; go_loud (refine (page_any 512 512 _ [((BitVec.ofNat 64 v : BitVec 64), (1 : Int))] PB _ rfl (FieldsV.lit w2 #[.int .u64 (uv (BitVec.ofNat 64 v)), .int .i64 1] 192 [((BitVec.ofNat 64 v : BitVec 64), (1 : Int))] 1 rfl rfl (by omega)) (show (1 : Nat) ≤ 10000 by decide) HFE.out (by decide) HFC.out HPB.out).mono ?_; rintro r w3 ⟨u3, rfl, ho, hw⟩; rw [PBL.out] at ho; have O3 := Lib.hid (own_base ho (Nat.le_trans C2.out.size (gr_alloc _ _).size)); have C3 := Lib.hid (gr_tr (gr_tr C2.out (gr_alloc _ _)) hw); clear ho hw)))
  obtain ⟨g, cap, rfl, hg, hcap, hcapm⟩ := own_at O3.out (by decide)
  have GC := Lib.hid (And.intro hcap hcapm)
  clear hg hcap hcapm p0 p1
  have RNG := Lib.hid (show w3.rangeAt w.heap.size 2 [.string (strOf s0), .string (strOf s1), .string (strOf s2), .string (strOf s3), .string (strOf s4), .string (strOf s5), .string (strOf s6)] from fun j z hj => by
    rw [cell_of_row _ _ (2 + j) _ _ _ (blk_below X.out C3.out)]
    match j, hj with
    | 0, h => exact h
    | 1, h => exact h
    | 2, h => exact h
    | 3, h => exact h
    | 4, h => exact h
    | 5, h => exact h
    | 6, h => exact h)
  obtain ⟨rv, hrv⟩ : ∃ rv, [s0, s1, s2, s3, s4, s5, s6] = rv := ⟨_, rfl⟩
  have HRV := Lib.hid (show ([.string (strOf s0), .string (strOf s1), .string (strOf s2), .string (strOf s3), .string (strOf s4), .string (strOf s5), .string (strOf s6)] : List Value).toArray = (rv.map strV).toArray by rw [← hrv]; rfl)
  rw [hrv] at hx hr he hB
  have HX := Lib.hid hx; have HR := Lib.hid hr
  have HE := Lib.hid he; have HB := Lib.hid hB
  clear hx hr he hB hrv
  go_upto_region 5 with (refine wpList_load_mid rfl 140 (.tmp 37) rfl w.heap.size 2 rfl [.string (strOf s0), .string (strOf s1), .string (strOf s2), .string (strOf s3), .string (strOf s4), .string (strOf s5), .string (strOf s6)] _ RNG.out Tryd.underlying140 rfl (by kernel_rfl) ?_)
  rw [HRV.out]
  go_loopw [39] (fun i wr => ∃ k : Nat, k ≤ 7 ∧ i = .int .i64 k ∧ Hid ((rv.take k).all rvOk = true) ∧ wr.ownsRow W.heap.size 5 1 (.slice (some ⟨g, 0, none⟩) 512 cap) 512 (by8 (Lay.lays PB (sltP 0 (rv.take k)))) ∧ Below W.heap.size W wr) (fun i _ => 7 - (intOf i).toNat)
  case atStart => exact ⟨0, by omega, rfl, rfl, O3.out, C3.out⟩
  case round =>
    obtain ⟨k, hk, rfl, hok, ho, hb⟩ := hrel
    have O := Lib.hid ho; have C := Lib.hid hb; clear ho hb
    by_cases hlt : k < 7
    · obtain ⟨s, hs⟩ : ∃ s, rv[k]? = some s := ⟨_, List.getElem?_eq_getElem (by rw [HX.out]; exact hlt)⟩
      have HS := Lib.hid hs
      have SL := Lib.hid (HR.out s (List.mem_of_getElem? hs))
      have TK := Lib.hid (show rv.take (k + 1) = rv.take k ++ [s] by obtain ⟨h5, rfl⟩ := List.getElem?_eq_some_iff.1 hs; exact List.take_succ_eq_append_getElem h5)
      obtain ⟨er, her⟩ : ∃ e, Wire.padE s 8 = e := ⟨_, rfl⟩
      obtain ⟨m, hm⟩ : ∃ m, Wire.pad s 8 = m := ⟨_, rfl⟩
      have HER := Lib.hid her; have HM := Lib.hid hm
      have TW := Lib.hid (tab_below TAB.out C.out)
      have BAD := Lib.hid (show rvOk s = false → rv.all rvOk = false from fun h => by rw [List.all_eq_false]; exact ⟨s, List.mem_of_getElem? hs, by rw [h]; decide⟩)
      clear hs her hm
      by_cases h0 : er = 0
      · subst h0
        have hq0 : ((0 : Int) != 0) = false := rfl
        have PZ := Lib.hid (padE_zero HER.out)
        obtain ⟨b, hb⟩ : ∃ b, ((tS s).toList == (strOf s).toList) = b := ⟨_, rfl⟩
        cases b
        rotate_left
        · have GD := Lib.hid (show rvOk s = true by unfold rvOk; rw [HER.out, Bool.and_eq_true]; exact ⟨rfl, hb⟩)
          by_cases hn : s = []
          · have hse : (strOf s).toList.isEmpty = true := by rw [hn, str_nil]; rfl
            have HNIL := Lib.hid hn
            clear hn
            go_wp2_with (first
              | (refine wpList_index_str rfl (.tmp 38) (.tmp 39) rfl rv HX.out rfl k rfl _ HS.out ?_)
              | (go_at_call 85; go_loud (refine (Pad_at s 8 0 m _ (by have := SL.out; omega) (by omega) HER.out HM.out).mono ?_; rintro r w4 ⟨u, rfl, hu, hw⟩; have U := Lib.hid hu; have C4 := Lib.hid (gr_tr C.out hw); have O4 := Lib.hid (own_below O.out hw); have T4 := Lib.hid (tab_below TW.out hw); clear hu hw))
              | (go_at_call 124; go_loud (refine (trim_space s _ HER.out T4.out).mono ?_; rintro r w5 ⟨rfl, hw⟩; have C5 := Lib.hid (gr_tr C4.out hw); have O5 := Lib.hid (own_below O4.out hw); clear hw)))
            go_roundw
            case rel => exact ⟨k + 1, by omega, by go_num, Lib.hid (by rw [TK.out, List.all_append, hok.out, Bool.true_and]; show (rvOk s && true) = true; rw [GD.out]; rfl), by rw [TK.out, sltP_snoc, if_pos HNIL.out, List.append_nil]; exact O5.out, C5.out⟩
            case measure => simp [intOf]; omega
          · have hse : (strOf s).toList.isEmpty = false := str_ne hn
            have hrun := run_from g 512 cap (8 + 8 * k) (by omega) GC.out.1 (by have := GC.out.1; omega) GC.out.2
            rw [show ((8 + 8 * k : Nat) : Int) = 8 + 8 * (k : Int) by omega] at hrun
            have ML := Lib.hid (show m.length = 8 by rw [← HM.out]; exact PZ.out.2.2)
            have hk6 : (k : Int) ≤ 6 := by omega
            go_wp2_with (first
              | (refine wpList_index_str rfl (.tmp 38) (.tmp 39) rfl rv HX.out rfl k rfl _ HS.out ?_)
              | (go_at_call 85; go_loud (refine (Pad_at s 8 0 m _ (by have := SL.out; omega) (by omega) HER.out HM.out).mono ?_; rintro r w4 ⟨u, rfl, hu, hw⟩; have U := Lib.hid hu; have C4 := Lib.hid (gr_tr C.out hw); have O4 := Lib.hid (own_below O.out hw); have T4 := Lib.hid (tab_below TW.out hw); clear hu hw))
              | (go_at_call 124; go_loud (refine (trim_space s _ HER.out T4.out).mono ?_; rintro r w5 ⟨rfl, hw⟩; have C5 := Lib.hid (gr_tr C4.out hw); have O5 := Lib.hid (own_below O4.out hw); have U5 := Lib.hid (U.out.below hw); clear hw))
              | (refine copy_at rfl (.tmp 64) (.tmp 65) rfl W.heap.size g 512 cap (8 + 8 * k) (Lay.lays PB (sltP 0 (rv.take k))) m rfl _ rfl O5.out U5.out (by rw [ML.out]; omega) (by rw [ML.out]; decide) ?_; intro w6 ho hg; have O6 := Lib.hid ho; have C6 := Lib.hid (C5.out.grown hg C5.out.size (fun q hq => by cases hq; exact (O5.out.lt g rfl).1)); clear ho hg))
            go_roundw
            case rel => exact ⟨k + 1, by omega, by go_num, Lib.hid (by rw [TK.out, List.all_append, hok.out, Bool.true_and]; show (rvOk s && true) = true; rw [GD.out]; rfl), by rw [TK.out, sltP_snoc, if_neg hn, Lay.lays_append, HM.out, List.length_take, HX.out, Nat.zero_add, Nat.min_eq_left (by omega)]; exact O6.out, C6.out⟩
            case measure => simp [intOf]; omega
        · have NG := Lib.hid (BAD.out (show rvOk s = false by unfold rvOk; rw [HER.out, hb]; rfl))
          have he := HE.out; have hB := HB.out
          rw [NG.out] at he hB
          simp only [Bool.false_eq_true, if_false] at he hB
          subst he; subst hB
          go_wp2_with (first
            | (refine wpList_index_str rfl (.tmp 38) (.tmp 39) rfl rv HX.out rfl k rfl _ HS.out ?_)
            | (go_at_call 85; go_loud (refine (Pad_at s 8 0 m _ (by have := SL.out; omega) (by omega) HER.out HM.out).mono ?_; rintro r w4 ⟨u, rfl, hu, hw⟩; have C4 := Lib.hid (gr_tr C.out hw); have T4 := Lib.hid (tab_below TW.out hw); clear hu hw))
            | (go_at_call 124; go_loud (refine (trim_space s _ HER.out T4.out).mono ?_; rintro r w5 ⟨rfl, hw⟩; have C5 := Lib.hid (gr_tr C4.out hw); clear hw)))
          go_ret2
          exact ⟨_, rfl, BytesV.nil _, gr_tr D.out C5.out⟩
      · have hq0 : (er != 0) = true := by simpa using h0
        have NG := Lib.hid (BAD.out (show rvOk s = false by unfold rvOk; rw [HER.out, decide_eq_false h0, Bool.false_and]))
        have he := HE.out; have hB := HB.out
        rw [NG.out] at he hB
        simp only [Bool.false_eq_true, if_false] at he hB
        subst he; subst hB
        go_wp2_with (first
          | (refine wpList_index_str rfl (.tmp 38) (.tmp 39) rfl rv HX.out rfl k rfl _ HS.out ?_)
          | (go_at_call 85; go_loud (refine (Pad_at s 8 er m _ (by have := SL.out; omega) (by omega) HER.out HM.out).mono ?_; rintro r w4 ⟨u, rfl, hu, hw⟩; have C4 := Lib.hid (gr_tr C.out hw); clear hu hw)))
        go_ret2
        exact ⟨_, rfl, BytesV.nil _, gr_tr D.out C4.out⟩
    · obtain rfl : k = 7 := by omega
      have hok := hok.out
      have ho := O.out
      have e7 : rv.take 7 = rv := List.take_of_length_le (by rw [HX.out]; decide)
      rw [e7] at hok ho
      have he := HE.out; have hB := HB.out
      rw [hok] at he hB
      simp only [if_true] at he hB
      subst he
      have hB2 : Lay.lays PB (sltP 0 rv) = B := by
        rw [← hB, ← HPB.out]; unfold sltB sltHd; dsimp only; rw [hv, Int.toNat_natCast]
      rw [hB2] at ho
      have BL : B.length = 512 := by have := ho.1; rwa [by8_length, Nat.mul_one] at this
      have VB := BytesV.of_own (l := B) (by rwa [← BL] at ho)
      rw [BL] at VB
      have V9 := Lib.hid VB
      clear ho hok e7 hB hB2 BL VB
      go_wp2
      go_ret2
      exact ⟨_, rfl, V9.out, gr_tr D.out C.out⟩
end Go.Proofs.YthnnopjakpjoeaaDoor
