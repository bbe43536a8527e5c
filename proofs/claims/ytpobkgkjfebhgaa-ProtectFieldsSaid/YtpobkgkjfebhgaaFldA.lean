/- The iterator over the compared fields: its contract. Printed by genflda.py. -/
import Derived.RangeFuncNested
import Derived.RangeFuncBound
import Derived.RangeFuncCalls
import Derived.RangeFuncLeaves
import Derived.Shelf.Abstract
import Derived.Shelf.RegionOpen
import Derived.WalkKit
import Derived.OwnWalkIn
import Derived.TacticsInMore
import Derived.LoopNIn
import Derived.LoopIn
import Derived.Deep.DeepCutAuto
import Derived.WalkMore
import Derived.Test.YtpobkgkjfebhgaaProtI
namespace Go.Proofs.Ytpobkgkjfebhgaa
open Go.RowKit Go.Shelf
set_option linter.unusedVariables false
set_option linter.unusedSimpArgs false
attribute [local go_sem] Oper.semAt_some
theorem grown_of_below {w w' : World} (h : Below w.heap.size w w') : w.grownBy w' none :=
  ⟨h.os, h.tape, h.output, h.size, fun k hk _ => h.block k hk⟩
namespace Fld
def sG : ByteArray := ⟨#[103, 117, 97, 114, 100]⟩
def sA : ByteArray := ⟨#[97, 112, 112]⟩
def sR : ByteArray := ⟨#[114, 101, 102]⟩
def one (b : Bool) (s : ByteArray) : List ByteArray := if b then [s] else []
/-- The names when k comparisons have been looked at. -/
def upto (cg ca cr : Bool) : Nat → List ByteArray
  | 0 => []
  | 1 => one cg sG
  | 2 => one cg sG ++ one ca sA
  | _ => one cg sG ++ one ca sA ++ one cr sR
def names (cg ca cr : Bool) : List ByteArray := upto cg ca cr 3
abbrev Ix (cg ca cr : Bool) : Type := Fin (names cg ca cr).length
def encs (cg ca cr : Bool) (i : Ix cg ca cr) : Array Value := #[.int .i64 (i.val : Int), .string ((names cg ca cr)[i.val]'i.isLt)]
/-- The first k indices. -/
def first (n k : Nat) : List (Fin n) := (List.finRange n).take k
theorem first_val (n k : Nat) (h : k ≤ n) : (first n k).map (·.val) = List.range k := by
  unfold first
  rw [List.map_take]
  have : (List.finRange n).map (·.val) = List.range n := by
    apply List.ext_getElem <;> simp
  rw [this, List.take_range, Nat.min_eq_left h]
theorem first_len (n k : Nat) (h : k ≤ n) : (first n k).length = k := by
  have := congrArg List.length (first_val n k h)
  simpa using this
theorem first_more (n k : Nat) (h : k < n) : first n (k + 1) = first n k ++ [⟨k, h⟩] := by
  unfold first
  rw [List.take_succ_eq_append_getElem (by simpa using h)]
  simp
end Fld
namespace Fld
theorem step0 (cg ca cr : Bool) : upto cg ca cr 1 = upto cg ca cr 0 ++ one cg sG := by cases cg <;> rfl
theorem step1 (cg ca cr : Bool) : upto cg ca cr 2 = upto cg ca cr 1 ++ one ca sA := rfl
theorem step2 (cg ca cr : Bool) : upto cg ca cr 3 = upto cg ca cr 2 ++ one cr sR := rfl
theorem lt0 (cg ca cr : Bool) (h : cg = true) : (upto cg ca cr 0).length < (names cg ca cr).length := by subst h; cases ca <;> cases cr <;> decide
theorem lt1 (cg ca cr : Bool) (h : ca = true) : (upto cg ca cr 1).length < (names cg ca cr).length := by subst h; cases cg <;> cases cr <;> decide
theorem lt2 (cg ca cr : Bool) (h : cr = true) : (upto cg ca cr 2).length < (names cg ca cr).length := by subst h; cases cg <;> cases ca <;> decide
theorem at0 (cg ca cr : Bool) (h : cg = true) (hl : (upto cg ca cr 0).length < (names cg ca cr).length) : (names cg ca cr)[(upto cg ca cr 0).length]'hl = sG := by subst h; cases ca <;> cases cr <;> rfl
theorem at1 (cg ca cr : Bool) (h : ca = true) (hl : (upto cg ca cr 1).length < (names cg ca cr).length) : (names cg ca cr)[(upto cg ca cr 1).length]'hl = sA := by subst h; cases cg <;> cases cr <;> rfl
theorem at2 (cg ca cr : Bool) (h : cr = true) (hl : (upto cg ca cr 2).length < (names cg ca cr).length) : (names cg ca cr)[(upto cg ca cr 2).length]'hl = sR := by subst h; cases cg <;> cases ca <;> rfl
theorem len_le (cg ca cr : Bool) : (names cg ca cr).length ≤ 3 := by cases cg <;> cases ca <;> cases cr <;> decide
end Fld
set_option maxHeartbeats 6400000 in
set_option maxRecDepth 20000 in
theorem Fields_stops (n : Nat) (hn : 1 ≤ n) (Bs : Nat) (cg ca cr : Bool) (t m : BitVec 16) (w : World) (hB : Bs < w.heap.size) (hc : w.heap[Bs]? = some (.cells #[.bool cg, .bool ca, .bool cr, .int .u16 (uv t), .int .u16 (uv m)] 24 (0, 0))) :
    SeqStopsK Fence.wide n Try.prog 6 #[.pointer (some ⟨Bs, 0, none⟩)] (Fld.encs cg ca cr) (fun _ _ => True) (fun xs => xs.map (·.val) = List.range (Fld.names cg ca cr).length) (fun pre => pre.map (·.val) = List.range pre.length ∧ 0 < pre.length) (Fld.names cg ca cr).length w := fun l J Jx W hW hJ hJx hY h0 => by
  have XS := (hW.block Bs hB).trans hc
  have q0 := cell_of_row _ _ 0 _ _ _ XS
  have q1 := cell_of_row _ _ 1 _ _ _ XS
  have q2 := cell_of_row _ _ 2 _ _ _ XS
  have q3 := cell_of_row _ _ 3 _ _ _ XS
  have q4 := cell_of_row _ _ 4 _ _ _ XS
  simp at q0 q1 q2 q3 q4
  refine callsIn_wide.2 ?_
  have HJ := Lib.hid hJ; have HY := Lib.hid hY; have H0 := Lib.hid h0
  clear hW hJ hJx hY h0 hc XS
  go_enter Try.func6, Try.ntmps6
  go_step3
  go_wp2
  go_step3
  go_wp2_with (go_at_call 7; go_loud (refine (comparisons_any cg ca cr t m 0#16 0#16 0#32 0#16 0 0#32 W).mono ?_; rintro e w5 ⟨rfl, hcw, hw5⟩; have J5 := Lib.hid (HJ.out _ _ _ none H0.out (grown_of_below hw5) (fun r e => by cases e)); clear hw5 hcw q0 q1 q2 q3 q4; simp only [Prot.cmps]; generalize W.heap.size = hn at *))
  go_loopw [9, 3] (fun i c wr => ∃ k : Nat, k ≤ 3 ∧ i = .int .i64 k ∧ c = .int .i64 ((Fld.upto cg ca cr k).length) ∧ J (Fld.first (Fld.names cg ca cr).length (Fld.upto cg ca cr k).length) wr) (fun i _ _ => 3 - (intOf i).toNat)
  case atStart => exact ⟨0, by omega, rfl, rfl, J5.out⟩
  case round =>
    obtain ⟨k, hk, rfl, rfl, hJW⟩ := hrel
    obtain rfl | rfl | rfl | rfl : k = 0 ∨ k = 1 ∨ k = 2 ∨ k = 3 := by omega
    · obtain ⟨m, hm⟩ : ∃ m, (Fld.upto cg ca cr 0).length = m := ⟨_, rfl⟩
      rw [hm] at hJW
      have JW := Lib.hid hJW
      clear hJW
      rw [hm]
      obtain hf | hf : cg = false ∨ cg = true := by cases cg <;> simp
      · have HM := Lib.hid (show (Fld.upto cg ca cr 1).length = m by rw [← hm, Fld.step0, hf]; simp [Fld.one])
        clear hm
        subst hf
        go_wp2_with (first
          | (refine wpList_index_cmp rfl (.tmp 8) (.tmp 9) rfl _ _ _ _ _ _ _ _ _ _ _ _ rfl _ rfl _ (by first | exact .inl ⟨rfl, rfl⟩ | exact .inr (.inl ⟨rfl, rfl⟩) | exact .inr (.inr ⟨rfl, rfl⟩)) ?_)
          | (refine wpList_store_new rfl 35 (.tmp 5) (.tmp 11) rfl _ 35 #[.string ⟨#[]⟩, .int .u8 0, .bool false, .nilFunc] rfl rfl (by kernel_rfl) (by rfl) (by simp [Value.oneCell']) ?_; intro w7 hr7 hb7; have k0 := cell_of_row _ _ 0 _ _ _ hr7; have k2 := cell_of_row _ _ 2 _ _ _ hr7; simp at k0 k2; have J7 := Lib.hid (HJ.out _ _ _ none JW.out (grown_of_below hb7) (fun r e => by cases e)); clear hr7 hb7))
        exact ⟨⟨1, by omega, rfl, by rw [HM.out], by rw [HM.out]; exact J7.out⟩, by simp [intOf]⟩
      · have HM := Lib.hid (show (Fld.upto cg ca cr 1).length = m + 1 by rw [← hm, Fld.step0, hf]; simp [Fld.one])
        have hlt : m < (Fld.names cg ca cr).length := by
          rw [← hm]; exact Fld.lt0 cg ca cr hf
        have hnm : (Fld.names cg ca cr)[m]'hlt = Fld.sG := by
          subst hm; exact Fld.at0 cg ca cr hf _
        have JM := Lib.hid (Fld.first_more (Fld.names cg ca cr).length m hlt).symm
        have JL1 := Lib.hid (Fld.first_len (Fld.names cg ca cr).length (m + 1) hlt)
        have HW1 := Lib.hid (show wrap64 ((m : Int) + 1) = ((m + 1 : Nat) : Int) by have := Fld.len_le cg ca cr; unfold wrap64; omega)
        have JL := Lib.hid (Fld.first_len (Fld.names cg ca cr).length m (Nat.le_of_lt hlt))
        have JV := Lib.hid (Fld.first_val (Fld.names cg ca cr).length (m + 1) hlt)
        have HYM := Lib.hid (fun (W1 : World) (hj : J (Fld.first (Fld.names cg ca cr).length m) W1) => HY.out (Fld.first (Fld.names cg ca cr).length m) ⟨m, hlt⟩ W1 hj (by rw [JL.out]; exact hlt))
        have HE := Lib.hid (show Fld.encs cg ca cr ⟨m, hlt⟩ = #[.int .i64 (m : Int), .string Fld.sG] by unfold Fld.encs; dsimp only; rw [hnm])
        clear hm hnm
        subst hf
        go_upto_region 5 with (first
          | (refine wpList_index_cmp rfl (.tmp 8) (.tmp 9) rfl _ _ _ _ _ _ _ _ _ _ _ _ rfl _ rfl _ (by first | exact .inl ⟨rfl, rfl⟩ | exact .inr (.inl ⟨rfl, rfl⟩) | exact .inr (.inr ⟨rfl, rfl⟩)) ?_)
          | (refine wpList_store_new rfl 35 (.tmp 5) (.tmp 11) rfl _ 35 #[.string ⟨#[]⟩, .int .u8 0, .bool false, .nilFunc] rfl rfl (by kernel_rfl) (by rfl) (by simp [Value.oneCell']) ?_; intro w7 hr7 hb7; have k0 := cell_of_row _ _ 0 _ _ _ hr7; have k2 := cell_of_row _ _ 2 _ _ _ hr7; simp at k0 k2; have J7 := Lib.hid (HJ.out _ _ _ none JW.out (grown_of_below hb7) (fun r e => by cases e)); clear hr7 hb7))
        obtain ⟨fn, tmps, assign, body, hy, hR⟩ := HYM.out _ J7.out
        rw [HE.out] at hy
        unfold Fld.sG at hy
        refine (wpIn_wide (n := n)).1 ?_
        gi_wp2
        refine hR.mono ?_
        clear hy hR
        rintro e W3 (⟨rfl, hJ3, _⟩ | ⟨rfl, hJx3⟩)
        · have J3 := Lib.hid hJ3
          clear hJ3
          gi_wp2
          go_wp2
          exact ⟨⟨1, by omega, rfl, by rw [HM.out, HW1.out], by rw [HM.out, ← JM.out]; exact J3.out⟩, by simp [intOf]⟩
        · have J3 := Lib.hid hJx3
          clear hJx3
          gi_wp2
          go_wp2
          rw [Exit.noGoto_normal]
          go_end0
          exact ⟨⟨_, rfl⟩, .inr ⟨_, ⟨by rw [JM.out, JL1.out]; exact JV.out, by rw [JM.out, JL1.out]; omega⟩, J3.out⟩⟩
    · obtain ⟨m, hm⟩ : ∃ m, (Fld.upto cg ca cr 1).length = m := ⟨_, rfl⟩
      rw [hm] at hJW
      have JW := Lib.hid hJW
      clear hJW
      rw [hm]
      obtain hf | hf : ca = false ∨ ca = true := by cases ca <;> simp
      · have HM := Lib.hid (show (Fld.upto cg ca cr 2).length = m by rw [← hm, Fld.step1, hf]; simp [Fld.one])
        clear hm
        subst hf
        go_wp2_with (first
          | (refine wpList_index_cmp rfl (.tmp 8) (.tmp 9) rfl _ _ _ _ _ _ _ _ _ _ _ _ rfl _ rfl _ (by first | exact .inl ⟨rfl, rfl⟩ | exact .inr (.inl ⟨rfl, rfl⟩) | exact .inr (.inr ⟨rfl, rfl⟩)) ?_)
          | (refine wpList_store_new rfl 35 (.tmp 5) (.tmp 11) rfl _ 35 #[.string ⟨#[]⟩, .int .u8 0, .bool false, .nilFunc] rfl rfl (by kernel_rfl) (by rfl) (by simp [Value.oneCell']) ?_; intro w7 hr7 hb7; have k0 := cell_of_row _ _ 0 _ _ _ hr7; have k2 := cell_of_row _ _ 2 _ _ _ hr7; simp at k0 k2; have J7 := Lib.hid (HJ.out _ _ _ none JW.out (grown_of_below hb7) (fun r e => by cases e)); clear hr7 hb7))
        exact ⟨⟨2, by omega, rfl, by rw [HM.out], by rw [HM.out]; exact J7.out⟩, by simp [intOf]⟩
      · have HM := Lib.hid (show (Fld.upto cg ca cr 2).length = m + 1 by rw [← hm, Fld.step1, hf]; simp [Fld.one])
        have hlt : m < (Fld.names cg ca cr).length := by
          rw [← hm]; exact Fld.lt1 cg ca cr hf
        have hnm : (Fld.names cg ca cr)[m]'hlt = Fld.sA := by
          subst hm; exact Fld.at1 cg ca cr hf _
        have JM := Lib.hid (Fld.first_more (Fld.names cg ca cr).length m hlt).symm
        have JL1 := Lib.hid (Fld.first_len (Fld.names cg ca cr).length (m + 1) hlt)
        have HW1 := Lib.hid (show wrap64 ((m : Int) + 1) = ((m + 1 : Nat) : Int) by have := Fld.len_le cg ca cr; unfold wrap64; omega)
        have JL := Lib.hid (Fld.first_len (Fld.names cg ca cr).length m (Nat.le_of_lt hlt))
        have JV := Lib.hid (Fld.first_val (Fld.names cg ca cr).length (m + 1) hlt)
        have HYM := Lib.hid (fun (W1 : World) (hj : J (Fld.first (Fld.names cg ca cr).length m) W1) => HY.out (Fld.first (Fld.names cg ca cr).length m) ⟨m, hlt⟩ W1 hj (by rw [JL.out]; exact hlt))
        have HE := Lib.hid (show Fld.encs cg ca cr ⟨m, hlt⟩ = #[.int .i64 (m : Int), .string Fld.sA] by unfold Fld.encs; dsimp only; rw [hnm])
        clear hm hnm
        subst hf
        go_upto_region 5 with (first
          | (refine wpList_index_cmp rfl (.tmp 8) (.tmp 9) rfl _ _ _ _ _ _ _ _ _ _ _ _ rfl _ rfl _ (by first | exact .inl ⟨rfl, rfl⟩ | exact .inr (.inl ⟨rfl, rfl⟩) | exact .inr (.inr ⟨rfl, rfl⟩)) ?_)
          | (refine wpList_store_new rfl 35 (.tmp 5) (.tmp 11) rfl _ 35 #[.string ⟨#[]⟩, .int .u8 0, .bool false, .nilFunc] rfl rfl (by kernel_rfl) (by rfl) (by simp [Value.oneCell']) ?_; intro w7 hr7 hb7; have k0 := cell_of_row _ _ 0 _ _ _ hr7; have k2 := cell_of_row _ _ 2 _ _ _ hr7; simp at k0 k2; have J7 := Lib.hid (HJ.out _ _ _ none JW.out (grown_of_below hb7) (fun r e => by cases e)); clear hr7 hb7))
        obtain ⟨fn, tmps, assign, body, hy, hR⟩ := HYM.out _ J7.out
        rw [HE.out] at hy
        unfold Fld.sA at hy
        refine (wpIn_wide (n := n)).1 ?_
        gi_wp2
        refine hR.mono ?_
        clear hy hR
        rintro e W3 (⟨rfl, hJ3, _⟩ | ⟨rfl, hJx3⟩)
        · have J3 := Lib.hid hJ3
          clear hJ3
          gi_wp2
          go_wp2
          exact ⟨⟨2, by omega, rfl, by rw [HM.out, HW1.out], by rw [HM.out, ← JM.out]; exact J3.out⟩, by simp [intOf]⟩
        · have J3 := Lib.hid hJx3
          clear hJx3
          gi_wp2
          go_wp2
          rw [Exit.noGoto_normal]
          go_end0
          exact ⟨⟨_, rfl⟩, .inr ⟨_, ⟨by rw [JM.out, JL1.out]; exact JV.out, by rw [JM.out, JL1.out]; omega⟩, J3.out⟩⟩
    · obtain ⟨m, hm⟩ : ∃ m, (Fld.upto cg ca cr 2).length = m := ⟨_, rfl⟩
      rw [hm] at hJW
      have JW := Lib.hid hJW
      clear hJW
      rw [hm]
      obtain hf | hf : cr = false ∨ cr = true := by cases cr <;> simp
      · have HM := Lib.hid (show (Fld.upto cg ca cr 3).length = m by rw [← hm, Fld.step2, hf]; simp [Fld.one])
        clear hm
        subst hf
        go_wp2_with (first
          | (refine wpList_index_cmp rfl (.tmp 8) (.tmp 9) rfl _ _ _ _ _ _ _ _ _ _ _ _ rfl _ rfl _ (by first | exact .inl ⟨rfl, rfl⟩ | exact .inr (.inl ⟨rfl, rfl⟩) | exact .inr (.inr ⟨rfl, rfl⟩)) ?_)
          | (refine wpList_store_new rfl 35 (.tmp 5) (.tmp 11) rfl _ 35 #[.string ⟨#[]⟩, .int .u8 0, .bool false, .nilFunc] rfl rfl (by kernel_rfl) (by rfl) (by simp [Value.oneCell']) ?_; intro w7 hr7 hb7; have k0 := cell_of_row _ _ 0 _ _ _ hr7; have k2 := cell_of_row _ _ 2 _ _ _ hr7; simp at k0 k2; have J7 := Lib.hid (HJ.out _ _ _ none JW.out (grown_of_below hb7) (fun r e => by cases e)); clear hr7 hb7))
        exact ⟨⟨3, by omega, rfl, by rw [HM.out], by rw [HM.out]; exact J7.out⟩, by simp [intOf]⟩
      · have HM := Lib.hid (show (Fld.upto cg ca cr 3).length = m + 1 by rw [← hm, Fld.step2, hf]; simp [Fld.one])
        have hlt : m < (Fld.names cg ca cr).length := by
          rw [← hm]; exact Fld.lt2 cg ca cr hf
        have hnm : (Fld.names cg ca cr)[m]'hlt = Fld.sR := by
          subst hm; exact Fld.at2 cg ca cr hf _
        have JM := Lib.hid (Fld.first_more (Fld.names cg ca cr).length m hlt).symm
        have JL1 := Lib.hid (Fld.first_len (Fld.names cg ca cr).length (m + 1) hlt)
        have HW1 := Lib.hid (show wrap64 ((m : Int) + 1) = ((m + 1 : Nat) : Int) by have := Fld.len_le cg ca cr; unfold wrap64; omega)
        have JL := Lib.hid (Fld.first_len (Fld.names cg ca cr).length m (Nat.le_of_lt hlt))
        have JV := Lib.hid (Fld.first_val (Fld.names cg ca cr).length (m + 1) hlt)
        have HYM := Lib.hid (fun (W1 : World) (hj : J (Fld.first (Fld.names cg ca cr).length m) W1) => HY.out (Fld.first (Fld.names cg ca cr).length m) ⟨m, hlt⟩ W1 hj (by rw [JL.out]; exact hlt))
        have HE := Lib.hid (show Fld.encs cg ca cr ⟨m, hlt⟩ = #[.int .i64 (m : Int), .string Fld.sR] by unfold Fld.encs; dsimp only; rw [hnm])
        clear hm hnm
        subst hf
        go_upto_region 5 with (first
          | (refine wpList_index_cmp rfl (.tmp 8) (.tmp 9) rfl _ _ _ _ _ _ _ _ _ _ _ _ rfl _ rfl _ (by first | exact .inl ⟨rfl, rfl⟩ | exact .inr (.inl ⟨rfl, rfl⟩) | exact .inr (.inr ⟨rfl, rfl⟩)) ?_)
          | (refine wpList_store_new rfl 35 (.tmp 5) (.tmp 11) rfl _ 35 #[.string ⟨#[]⟩, .int .u8 0, .bool false, .nilFunc] rfl rfl (by kernel_rfl) (by rfl) (by simp [Value.oneCell']) ?_; intro w7 hr7 hb7; have k0 := cell_of_row _ _ 0 _ _ _ hr7; have k2 := cell_of_row _ _ 2 _ _ _ hr7; simp at k0 k2; have J7 := Lib.hid (HJ.out _ _ _ none JW.out (grown_of_below hb7) (fun r e => by cases e)); clear hr7 hb7))
        obtain ⟨fn, tmps, assign, body, hy, hR⟩ := HYM.out _ J7.out
        rw [HE.out] at hy
        unfold Fld.sR at hy
        refine (wpIn_wide (n := n)).1 ?_
        gi_wp2
        refine hR.mono ?_
        clear hy hR
        rintro e W3 (⟨rfl, hJ3, _⟩ | ⟨rfl, hJx3⟩)
        · have J3 := Lib.hid hJ3
          clear hJ3
          gi_wp2
          go_wp2
          exact ⟨⟨3, by omega, rfl, by rw [HM.out, HW1.out], by rw [HM.out, ← JM.out]; exact J3.out⟩, by simp [intOf]⟩
        · have J3 := Lib.hid hJx3
          clear hJx3
          gi_wp2
          go_wp2
          rw [Exit.noGoto_normal]
          go_end0
          exact ⟨⟨_, rfl⟩, .inr ⟨_, ⟨by rw [JM.out, JL1.out]; exact JV.out, by rw [JM.out, JL1.out]; omega⟩, J3.out⟩⟩
    · have JW := Lib.hid hJW
      clear hJW
      go_wp2
      rw [Exit.noGoto_normal]
      go_end0
      exact ⟨⟨_, rfl⟩, .inl ⟨_, Fld.first_val _ _ (Nat.le_refl _), JW.out⟩⟩
end Go.Proofs.Ytpobkgkjfebhgaa
