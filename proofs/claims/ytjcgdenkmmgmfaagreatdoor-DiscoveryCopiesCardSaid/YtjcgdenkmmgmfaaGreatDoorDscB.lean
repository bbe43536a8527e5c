/- Discovery: text, ValidName, Valid: the program and the reference. Printed by gendscb.py. -/
import Derived.Test.YtjcgdenkmmgmfaaGreatDoorDscA
import Derived.Test.YtjcgdenkmmgmfaaGreatDoorShelf
import Derived.Test.YtjcgdenkmmgmfaaGreatDoorApp
import Derived.Deep.DeepCutAuto
namespace Go.Proofs.YtjcgdenkmmgmfaaGreatDoor
open Go.RowKit Dsc
set_option linter.unusedVariables false
set_option linter.unusedSimpArgs false
theorem hasSuffix_sp (l : List (BitVec 8)) : Lib.hasSuffix (strOf l).data.toList (⟨#[32]⟩ : ByteArray).data.toList = (l.getLast? == some 32#8) := by
  have e : (strOf l).data.toList = l.map UInt8.ofBitVec := by unfold strOf; rfl
  rw [e]
  show List.isSuffixOf [(32 : UInt8)] (l.map UInt8.ofBitVec) = _
  unfold List.isSuffixOf
  rw [← List.map_reverse, ← List.head?_reverse]
  cases h : l.reverse with
  | nil => rfl
  | cons x r =>
    rw [List.map_cons, List.reverse_singleton, List.head?_cons]
    show ((32 : UInt8) == UInt8.ofBitVec x && true) = (some x == some 32#8)
    rw [Bool.and_true]
    have : ((32 : UInt8) == UInt8.ofBitVec x) = (x == 32#8) := by
      rcases x with ⟨x⟩
      rw [Bool.eq_iff_iff]
      simp only [beq_iff_eq]
      constructor
      · intro h; have := congrArg UInt8.toBitVec h; exact this.symm
      · intro h; rw [h]; rfl
    rw [this]; rfl
set_option maxHeartbeats 1600000 in
theorem text_at (l : List (BitVec 8)) (a b : Nat) (z : Bool) (w : World) (hl : l.length ≤ 9223372036854775807) (ha : a ≤ 1000) (hb : b ≤ 1000) (hz : txOk l a b = z) :
    Calls Tryz.prog 51 #[.string (strOf l), .int .i64 a, .int .i64 b] w fun e w' => e = .returned (.bool z) ∧ Below w.heap.size w w' := by
  have hsz := strOf_size l
  have SUF := Lib.hid (fun w => Tryz.strings_HasSuffix (strOf l) (⟨#[32]⟩ : ByteArray) w (by rw [hsz]; exact hl))
  have IDX := Lib.hid (fun w => IndexTx l w hl)
  rw [hasSuffix_sp] at SUF
  obtain ⟨q, hq⟩ : ∃ q, (l.getLast? == some 32#8) = q := ⟨_, rfl⟩
  obtain ⟨p, hp⟩ : ∃ p, l.all Wire.plainB = p := ⟨_, rfl⟩
  rw [hq] at SUF; rw [hp] at IDX
  have HZ := Lib.hid (show (p && decide (a ≤ l.length) && decide (l.length ≤ b) && !q) = z by rw [← hz, ← hq, ← hp]; rfl)
  obtain ⟨s, hs⟩ : ∃ s, strOf l = s := ⟨_, rfl⟩
  rw [hs] at hsz SUF IDX ⊢
  clear hq hp hz hs
  have e0 : (s.size : Int) = (l.length : Int) := by rw [hsz]
  clear hsz
  obtain ⟨n, hn⟩ : ∃ n, l.length = n := ⟨_, rfl⟩
  rw [hn] at e0 HZ hl
  clear hn
  go_enter Tryz.func51, Tryz.ntmps51
  by_cases c1 : a ≤ n
  · by_cases c2 : n ≤ b
    · have d1 : decide ((a : Int) ≤ (n : Int)) = true := decide_eq_true (by omega)
      rw [decide_eq_true c1, decide_eq_true c2] at HZ
      cases q
      · go_wp2_with (first
          | (go_at_call 67; go_loud (refine (SUF.out _).mono ?_; rintro r w1 ⟨rfl, rfl⟩))
          | (go_at_call 48; go_loud (refine (IDX.out _).mono ?_; rintro r w1 ⟨⟨j, rfl, hj⟩, hb⟩; have HJ := Lib.hid hj; have HB := Lib.hid hb; clear hj hb)))
        go_ret
        exact ⟨by rw [← HZ.out, ← HJ.out, Bool.and_true, Bool.and_true, Bool.not_false, Bool.and_true]; rfl, HB.out⟩
      · go_wp2_with (go_at_call 67; go_loud (refine (SUF.out _).mono ?_; rintro r w1 ⟨rfl, rfl⟩))
        go_ret
        exact ⟨by rw [← HZ.out, Bool.not_true, Bool.and_false]; rfl, Below.refl _ _⟩
    · have d1 : decide ((a : Int) ≤ (n : Int)) = true := decide_eq_true (by omega)
      rw [decide_eq_false c2, Bool.and_false, Bool.false_and] at HZ
      go_wp2
      go_ret
      exact ⟨by rw [← HZ.out]; rfl, Below.refl _ _⟩
  · have d1 : decide ((a : Int) ≤ (n : Int)) = false := decide_eq_false (by omega)
    rw [decide_eq_false c1, Bool.and_false, Bool.false_and, Bool.false_and] at HZ
    go_wp2
    go_ret
    exact ⟨by rw [← HZ.out]; rfl, Below.refl _ _⟩
set_option maxHeartbeats 1600000 in
theorem ValidName_at (l : List (BitVec 8)) (z : Bool) (w : World) (hl : l.length ≤ 9223372036854775807) (hz : nmOk l = z) :
    Calls Tryz.prog 22 #[.string (strOf l)] w fun e w' => e = .returned (.bool z) ∧ Below w.heap.size w w' := by
  have hsz := strOf_size l
  have IDX := Lib.hid (fun w => IndexNm l w hl)
  obtain ⟨p, hp⟩ : ∃ p, l.all inN = p := ⟨_, rfl⟩
  rw [hp] at IDX
  have HZ := Lib.hid (show (p && decide (1 ≤ l.length) && decide (l.length ≤ 223)) = z by rw [← hz, ← hp]; rfl)
  obtain ⟨s, hs⟩ : ∃ s, strOf l = s := ⟨_, rfl⟩
  rw [hs] at hsz IDX ⊢
  clear hp hz hs
  have e0 : (s.size : Int) = (l.length : Int) := by rw [hsz]
  clear hsz
  obtain ⟨n, hn⟩ : ∃ n, l.length = n := ⟨_, rfl⟩
  rw [hn] at e0 HZ hl
  clear hn
  go_enter Tryz.func22, Tryz.ntmps22
  by_cases c1 : 1 ≤ n
  · by_cases c2 : n ≤ 223
    · have d1 : decide ((1 : Int) ≤ (n : Int)) = true := decide_eq_true (by omega)
      rw [decide_eq_true c1, decide_eq_true c2] at HZ
      go_wp2_with (go_at_call 48; go_loud (refine (IDX.out _).mono ?_; rintro r w1 ⟨⟨j, rfl, hj⟩, hb⟩; have HJ := Lib.hid hj; have HB := Lib.hid hb; clear hj hb))
      go_ret
      exact ⟨by rw [← HZ.out, ← HJ.out, Bool.and_true, Bool.and_true]; rfl, HB.out⟩
    · have d1 : decide ((1 : Int) ≤ (n : Int)) = true := decide_eq_true (by omega)
      rw [decide_eq_false c2, Bool.and_false] at HZ
      go_wp2
      go_ret
      exact ⟨by rw [← HZ.out]; rfl, Below.refl _ _⟩
  · have d1 : decide ((1 : Int) ≤ (n : Int)) = false := decide_eq_false (by omega)
    rw [decide_eq_false c1, Bool.and_false, Bool.false_and] at HZ
    go_wp2
    go_ret
    exact ⟨by rw [← HZ.out]; rfl, Below.refl _ _⟩
/-! records in memory -/
def Dsc.Rec.cells (r : Rec) : List Value := [.int .u8 (uv r.tr), .int .u8 (uv r.fa), .bool r.rf, .bool r.sc, .int .u16 (uv r.po), .int .u16 (uv r.ct), .int .u16 (uv r.qu), .string (strOf r.sv), .string (strOf r.sb), .string (strOf r.ad)]
structure Dsc.Rec.Fit (r : Rec) : Prop where
  sv : r.sv.length ≤ 9223372036854775807
  sb : r.sb.length ≤ 9223372036854775807
  ad : r.ad.length ≤ 9223372036854775807
/-- The record lies in a block, cell by cell, from a place on. -/
structure RecAt (w : World) (g o : Nat) (r : Rec) : Prop where
  c0 : w.cell? ⟨g, o, none⟩ = some (.int .u8 (uv r.tr))
  c1 : w.cell? ⟨g, o + 1, none⟩ = some (.int .u8 (uv r.fa))
  c2 : w.cell? ⟨g, o + 2, none⟩ = some (.bool r.rf)
  c3 : w.cell? ⟨g, o + 3, none⟩ = some (.bool r.sc)
  c4 : w.cell? ⟨g, o + 4, none⟩ = some (.int .u16 (uv r.po))
  c5 : w.cell? ⟨g, o + 5, none⟩ = some (.int .u16 (uv r.ct))
  c6 : w.cell? ⟨g, o + 6, none⟩ = some (.int .u16 (uv r.qu))
  c7 : w.cell? ⟨g, o + 7, none⟩ = some (.string (strOf r.sv))
  c8 : w.cell? ⟨g, o + 8, none⟩ = some (.string (strOf r.sb))
  c9 : w.cell? ⟨g, o + 9, none⟩ = some (.string (strOf r.ad))
theorem below_cellE {w w' : World} {p : Addr} {v : Value} (hb : Below w.heap.size w w') (h : w.cell? p = some v) : w'.cell? p = some v := by
  refine (hb.cell ?_).trans h
  unfold World.cell? at h
  split at h
  · exact (Array.getElem?_eq_some_iff.1 (by assumption)).1
  all_goals cases h
theorem RecAt.below {w w' : World} {g o : Nat} {r : Rec} (h : RecAt w g o r) (hb : Below w.heap.size w w') : RecAt w' g o r :=
  ⟨below_cellE hb h.c0, below_cellE hb h.c1, below_cellE hb h.c2, below_cellE hb h.c3, below_cellE hb h.c4, below_cellE hb h.c5, below_cellE hb h.c6, below_cellE hb h.c7, below_cellE hb h.c8, below_cellE hb h.c9⟩
theorem RecAt.of_row {w : World} {g : Nat} {r : Rec} {t : TypeId} {fr : Nat × Nat} (h : w.heap[g]? = some (.cells r.cells.toArray t fr)) : RecAt w g 0 r :=
  ⟨(cell_of_row _ _ 0 _ _ _ h).trans rfl, (cell_of_row _ _ 1 _ _ _ h).trans rfl, (cell_of_row _ _ 2 _ _ _ h).trans rfl, (cell_of_row _ _ 3 _ _ _ h).trans rfl, (cell_of_row _ _ 4 _ _ _ h).trans rfl, (cell_of_row _ _ 5 _ _ _ h).trans rfl, (cell_of_row _ _ 6 _ _ _ h).trans rfl, (cell_of_row _ _ 7 _ _ _ h).trans rfl, (cell_of_row _ _ 8 _ _ _ h).trans rfl, (cell_of_row _ _ 9 _ _ _ h).trans rfl⟩
theorem nums_prog (r : Rec) : r.nums = !(decide (uv r.tr < 1) || decide (254 < uv r.tr) || decide (254 < uv r.fa) || decide (uv r.qu < 32) || (r.rf && decide (uv r.ct ≠ 65535))) := by
  unfold Rec.nums
  have e1 : decide (1 ≤ uv r.tr) = !decide (uv r.tr < 1) := by rw [← decide_not]; exact decide_eq_decide.2 (by omega)
  have e2 : decide (uv r.tr ≤ 254) = !decide (254 < uv r.tr) := by rw [← decide_not]; exact decide_eq_decide.2 (by omega)
  have e3 : decide (uv r.fa ≤ 254) = !decide (254 < uv r.fa) := by rw [← decide_not]; exact decide_eq_decide.2 (by omega)
  have e4 : decide (32 ≤ uv r.qu) = !decide (uv r.qu < 32) := by rw [← decide_not]; exact decide_eq_decide.2 (by omega)
  have e5 : decide (uv r.ct ≠ 65535) = !decide (uv r.ct = 65535) := by rw [← decide_not]
  rw [e1, e2, e3, e4, e5]
  simp only [Bool.not_or]
theorem run_strAt (l : List (BitVec 8)) (k : Nat) (y : BitVec 8) (h : l[k]? = some y) (w : World) : (Instr.index 9 (.string (strOf l)) (.int .i64 k)).run Tryz.prog w = .ok (.int .u8 (uv y)) w := by
  obtain ⟨hk, rfl⟩ := List.getElem?_eq_some_iff.1 h
  have hs : (strOf l).size = l.length := strOf_size l
  rw [run_index_string (P := Tryz.prog) w 9 (strOf l) .i64 k Tryz.underlying9, dif_pos ⟨by omega, by rw [hs]; omega⟩]
  have e : ((strOf l)[(k : Int).toNat]'(by rw [hs]; simpa using hk)).toNat = (l[k]).toNat := strOf_at l k l[k] (List.getElem?_eq_getElem hk) _
  rw [e]; rfl
set_option maxHeartbeats 3200000 in
theorem rtext_at (l : List (BitVec 8)) (a b : Nat) (z : Bool) (w : World) (hl : l.length ≤ 9223372036854775807) (ha : a ≤ 1000) (hb : b ≤ 1000) (hz : txOk l a b = z) :
    Calls Tryz.prog 65 #[.string (strOf l), .int .i64 a, .int .i64 b] w fun e w' => e = .returned (.bool z) ∧ Below w.heap.size w w' := by
  have hsz := strOf_size l
  have AT := Lib.hid (fun k y h => run_strAt l k y h)
  have HZ := Lib.hid (show (l.all Wire.plainB && decide (a ≤ l.length) && decide (l.length ≤ b) && !(l.getLast? == some 32#8)) = z from hz)
  obtain ⟨s, hs⟩ : ∃ s, strOf l = s := ⟨_, rfl⟩
  rw [hs] at hsz AT ⊢
  clear hz hs
  have e0 : (s.size : Int) = (l.length : Int) := by rw [hsz]
  clear hsz
  obtain ⟨n, hn⟩ : ∃ n, l.length = n := ⟨_, rfl⟩
  rw [hn] at e0 HZ hl
  have HN := Lib.hid hn
  clear hn
  go_enter Tryz.func65, Tryz.ntmps65
  go_wp2
  go_loopw [7] (fun i wr => ∃ k : Nat, k ≤ n ∧ i = .int .i64 k ∧ Hid ((l.take k).all Wire.plainB = true) ∧ wr = w) (fun i _ => n - (intOf i).toNat)
  case atStart => exact ⟨0, by omega, rfl, Lib.hid rfl, rfl⟩
  case round =>
    obtain ⟨k, hk, rfl, hA, rfl⟩ := hrel
    by_cases hlt : k < n
    · obtain ⟨x, hx⟩ : ∃ x, l[k]? = some x := ⟨_, List.getElem?_eq_getElem (by rw [HN.out]; exact hlt)⟩
      have hi := AT.out k x hx
      have HT := Lib.hid (all_take Wire.plainB l k x hx)
      have HM := Lib.hid (List.mem_of_getElem? hx)
      have HU : ∀ b, Wire.plainB x = b → decide ((32 : Int) ≤ uv x) = true → decide (uv x ≤ 126) = b := by
        intro b h1 h2; rw [← h1]; unfold Wire.plainB; rw [h2, Bool.true_and]
      have HV := Lib.hid (show Wire.plainB x = (decide ((32 : Int) ≤ uv x) && decide (uv x ≤ 126)) by unfold Wire.plainB; rfl)
      obtain ⟨y, hy⟩ : ∃ y, uv x = y := ⟨_, rfl⟩
      rw [hy] at hi HV
      clear hx hy HU
      by_cases h1 : y < 32
      · have HF := Lib.hid (show l.all Wire.plainB = false by
          rw [List.all_eq_false]; exact ⟨x, HM.out, by rw [HV.out, decide_eq_false (by omega : ¬ (32 : Int) ≤ y)]; simp⟩)
        go_wp2
        go_ret
        exact ⟨by rw [← HZ.out, HF.out]; rfl, Below.refl _ _⟩
      · by_cases h2 : 126 < y
        · have HF := Lib.hid (show l.all Wire.plainB = false by
            rw [List.all_eq_false]; exact ⟨x, HM.out, by rw [HV.out, decide_eq_false (by omega : ¬ y ≤ 126), Bool.and_false]; simp⟩)
          go_wp2
          go_ret
          exact ⟨by rw [← HZ.out, HF.out]; rfl, Below.refl _ _⟩
        · have HF := Lib.hid (show (l.take (k + 1)).all Wire.plainB = true by
            rw [HT.out, hA.out, HV.out, decide_eq_true (by omega : (32 : Int) ≤ y), decide_eq_true (by omega : y ≤ 126)]; rfl)
          go_wp2
          go_roundw
          case rel => exact ⟨k + 1, by omega, by go_num, HF, by first | rfl | trivial⟩
          case measure => simp [intOf]; omega
    · obtain rfl : k = n := by omega
      have HF := Lib.hid (show l.all Wire.plainB = true by have := hA.out; rwa [List.take_of_length_le (by rw [HN.out]; exact Nat.le_refl _)] at this)
      have hz := HZ.out
      rw [HF.out, Bool.true_and] at hz
      clear hA HF HZ
      by_cases c1 : a ≤ k
      · by_cases c2 : k ≤ b
        · rw [decide_eq_true c1, decide_eq_true c2, Bool.true_and, Bool.true_and] at hz
          by_cases c3 : k = 0
          · subst c3
            have hl0 : l = [] := List.eq_nil_of_length_eq_zero HN.out
            have hzz : z = true := by rw [← hz, hl0]; rfl
            subst hzz
            clear hz
            go_wp2
            go_ret
            exact ⟨rfl, Below.refl _ _⟩
          · obtain ⟨m, rfl⟩ : ∃ m, k = m + 1 := ⟨k - 1, by omega⟩
            obtain ⟨x, hx⟩ : ∃ x, l[m]? = some x := ⟨_, List.getElem?_eq_getElem (by rw [HN.out]; omega)⟩
            have hg : l.getLast? = some x := by rw [List.getLast?_eq_getElem?, HN.out]; exact hx
            have hi := AT.out m x hx
            have hw : IntKind.i64.wrap (((m + 1 : Nat) : Int) - 1) = (m : Int) := by rw [IntKind.wrap_i64]; omega
            have hw2 : IntKind.i64.wrap ((m : Int) + 1 - 1) = (m : Int) := by rw [IntKind.wrap_i64]; omega
            rw [hg] at hz
            have hq : (some x == some 32#8) = (uv x == 32) := by
              rw [Bool.eq_iff_iff]
              simp only [beq_iff_eq, Option.some.injEq]
              exact ⟨fun h => by rw [h]; rfl, fun h => uv_inj h⟩
            rw [hq] at hz
            obtain ⟨y, hy⟩ : ∃ y, uv x = y := ⟨_, rfl⟩
            rw [hy] at hi hz
            clear hx hg hq hy
            by_cases c4 : y = 32
            · have hzz : z = false := by rw [← hz, c4]; rfl
              subst hzz
              clear hz
              go_wp2
              go_ret
              exact ⟨rfl, Below.refl _ _⟩
            · have hzz : z = true := by rw [← hz]; simpa using c4
              subst hzz
              clear hz
              have c5 : (y != 32) = true := by simpa using c4
              go_wp2
              go_ret
              first | exact ⟨rfl, Below.refl _ _⟩ | exact ⟨by rw [c5]; rfl, Below.refl _ _⟩
        · rw [decide_eq_false c2, Bool.and_false, Bool.false_and] at hz
          subst hz
          go_wp2
          go_ret
          exact ⟨rfl, Below.refl _ _⟩
      · rw [decide_eq_false c1, Bool.false_and, Bool.false_and] at hz
        subst hz
        go_wp2
        go_ret
        exact ⟨rfl, Below.refl _ _⟩
set_option maxHeartbeats 3200000 in
theorem rName_at (l : List (BitVec 8)) (z : Bool) (w : World) (hl : l.length ≤ 9223372036854775807) (hz : nmOk l = z) :
    Calls Tryz.prog 45 #[.string (strOf l)] w fun e w' => e = .returned (.bool z) ∧ Below w.heap.size w w' := by
  have hsz := strOf_size l
  have AT := Lib.hid (fun k y h => run_strAt l k y h)
  have HZ := Lib.hid (show (l.all inN && decide (1 ≤ l.length) && decide (l.length ≤ 223)) = z from hz)
  obtain ⟨s, hs⟩ : ∃ s, strOf l = s := ⟨_, rfl⟩
  rw [hs] at hsz AT ⊢
  clear hz hs
  have e0 : (s.size : Int) = (l.length : Int) := by rw [hsz]
  clear hsz
  obtain ⟨n, hn⟩ : ∃ n, l.length = n := ⟨_, rfl⟩
  rw [hn] at e0 HZ hl
  have HN := Lib.hid hn
  clear hn
  go_enter Tryz.func45, Tryz.ntmps45
  go_wp2
  go_loopw [3] (fun i wr => ∃ k : Nat, k ≤ n ∧ i = .int .i64 k ∧ Hid ((l.take k).all inN = true) ∧ wr = w) (fun i _ => n - (intOf i).toNat)
  case atStart => exact ⟨0, by omega, rfl, Lib.hid rfl, rfl⟩
  case round =>
    obtain ⟨k, hk, rfl, hA, rfl⟩ := hrel
    by_cases hlt : k < n
    · obtain ⟨x, hx⟩ : ∃ x, l[k]? = some x := ⟨_, List.getElem?_eq_getElem (by rw [HN.out]; exact hlt)⟩
      have hi := AT.out k x hx
      have HT := Lib.hid (all_take inN l k x hx)
      have HM := Lib.hid (List.mem_of_getElem? hx)
      have HU : ∀ b, inN x = b → decide ((33 : Int) ≤ uv x) = true → decide (uv x ≤ 126) = b := by
        intro b h1 h2; rw [← h1]; unfold inN; rw [h2, Bool.true_and]
      have HV := Lib.hid (show inN x = (decide ((33 : Int) ≤ uv x) && decide (uv x ≤ 126)) by unfold inN; rfl)
      obtain ⟨y, hy⟩ : ∃ y, uv x = y := ⟨_, rfl⟩
      rw [hy] at hi HV
      clear hx hy HU
      by_cases h1 : y < 33
      · have HF := Lib.hid (show l.all inN = false by
          rw [List.all_eq_false]; exact ⟨x, HM.out, by rw [HV.out, decide_eq_false (by omega : ¬ (33 : Int) ≤ y)]; simp⟩)
        go_wp2
        go_ret
        exact ⟨by rw [← HZ.out, HF.out]; rfl, Below.refl _ _⟩
      · by_cases h2 : 126 < y
        · have HF := Lib.hid (show l.all inN = false by
            rw [List.all_eq_false]; exact ⟨x, HM.out, by rw [HV.out, decide_eq_false (by omega : ¬ y ≤ 126), Bool.and_false]; simp⟩)
          go_wp2
          go_ret
          exact ⟨by rw [← HZ.out, HF.out]; rfl, Below.refl _ _⟩
        · have HF := Lib.hid (show (l.take (k + 1)).all inN = true by
            rw [HT.out, hA.out, HV.out, decide_eq_true (by omega : (33 : Int) ≤ y), decide_eq_true (by omega : y ≤ 126)]; rfl)
          go_wp2
          go_roundw
          case rel => exact ⟨k + 1, by omega, by go_num, HF, by first | rfl | trivial⟩
          case measure => simp [intOf]; omega
    · obtain rfl : k = n := by omega
      have HF := Lib.hid (show l.all inN = true by have := hA.out; rwa [List.take_of_length_le (by rw [HN.out]; exact Nat.le_refl _)] at this)
      have hz := HZ.out
      rw [HF.out, Bool.true_and] at hz
      clear hA HF HZ
      by_cases c1 : 1 ≤ k
      · by_cases c2 : k ≤ 223
        · rw [decide_eq_true c1, decide_eq_true c2] at hz
          subst hz
          have d1 : (1 : Int) ≤ (k : Int) := by omega
          have d2 : (k : Int) ≤ 223 := by omega
          go_wp2
          go_ret
          first | exact ⟨rfl, Below.refl _ _⟩ | exact ⟨by rw [decide_eq_true d2]; rfl, Below.refl _ _⟩
        · rw [decide_eq_false c2, Bool.and_false] at hz
          subst hz
          have d1 : (1 : Int) ≤ (k : Int) := by omega
          have d2 : ¬ (k : Int) ≤ 223 := by omega
          go_wp2
          go_ret
          first | exact ⟨rfl, Below.refl _ _⟩ | exact ⟨by rw [decide_eq_false (Int.not_le.2 d2)]; rfl, Below.refl _ _⟩
      · rw [decide_eq_false c1, Bool.false_and] at hz
        subst hz
        obtain rfl : k = 0 := by omega
        go_wp2
        go_ret
        exact ⟨rfl, Below.refl _ _⟩
set_option maxRecDepth 20000 in
set_option maxHeartbeats 3200000 in
theorem Valid_at (r : Rec) (z : Bool) (w : World) (hr : r.Fit) (hz : r.ok = z) :
    Calls Tryz.prog 29 #[.agg r.cells.toArray] w fun e w' => e = .returned (.bool z) ∧ Below w.heap.size w w' := by
  have TX1 := Lib.hid (fun z w h => text_at r.sv 0 32 z w hr.sv (by decide) (by decide) h)
  have TX2 := Lib.hid (fun z w h => text_at r.ad 1 256 z w hr.ad (by decide) (by decide) h)
  have NM := Lib.hid (fun z w h => ValidName_at r.sb z w hr.sb h)
  have HZ := Lib.hid hz
  obtain ⟨W, hW⟩ : ∃ W, W = w.alloc (.cells r.cells.toArray 37) := ⟨_, rfl⟩
  have D := Lib.hid (show Below w.heap.size w W by rw [hW]; exact gr_alloc w _)
  have R := Lib.hid (RecAt.of_row (show W.heap[w.heap.size]? = some (.cells r.cells.toArray 37 (0, 0)) by rw [hW]; exact heap_alloc_new w _))
  have HW := Lib.hid hW
  clear hz hr hW
  obtain ⟨nu, hnu⟩ : ∃ x, r.nums = x := ⟨_, rfl⟩
  have HNU := Lib.hid hnu
  clear hnu
  have uc := uv_nonneg r.tr; have ud := uv8_lt r.tr; have ue := uv_nonneg r.fa; have uf := uv8_lt r.fa
  go_enter Tryz.func29, Tryz.ntmps29
  go_upto_region 1 with fail
  first
    | rw [← HW.out]
    | (show Code.wp _ _ _ _ (w.alloc (.cells r.cells.toArray 37)); rw [← HW.out])
  go_cut [29] (fun s wx => s = .bool (!nu) ∧ wx = W)
  case first =>
    obtain ⟨c0, c1, c2, c3, c4, c5, c6, c7, c8, c9⟩ := R.out
    simp only [Nat.zero_add] at c0 c1 c2 c3 c4 c5 c6 c7 c8 c9
    have HN := Lib.hid (nums_prog r)
    obtain ⟨tr, htr⟩ : ∃ x, uv r.tr = x := ⟨_, rfl⟩
    obtain ⟨fa, hfa⟩ : ∃ x, uv r.fa = x := ⟨_, rfl⟩
    obtain ⟨qu, hqu⟩ : ∃ x, uv r.qu = x := ⟨_, rfl⟩
    obtain ⟨ct, hct⟩ : ∃ x, uv r.ct = x := ⟨_, rfl⟩
    obtain ⟨rf, hrf⟩ : ∃ x, r.rf = x := ⟨_, rfl⟩
    rw [htr, hfa, hqu, hct, hrf, HNU.out] at HN
    rw [htr] at c0 uc ud; rw [hfa] at c1 ue uf; rw [hqu] at c6; rw [hct] at c5; rw [hrf] at c2
    clear htr hfa hqu hct hrf R HNU
    by_cases h1 : tr < 1
    · have hn := HN.out; rw [decide_eq_true h1] at hn; simp at hn; subst hn; clear HN
      go_wp2
      go_meet
      exact ⟨rfl, rfl⟩
    · by_cases h2 : 254 < tr
      · have hn := HN.out; rw [decide_eq_true h2] at hn; simp at hn; subst hn; clear HN
        go_wp2
        go_meet
        exact ⟨rfl, rfl⟩
      · by_cases h3 : 254 < fa
        · have hn := HN.out; rw [decide_eq_true h3] at hn; simp at hn; subst hn; clear HN
          go_wp2
          go_meet
          exact ⟨rfl, rfl⟩
        · by_cases h4 : qu < 32
          · have hn := HN.out; rw [decide_eq_true h4] at hn; simp at hn; subst hn; clear HN
            go_wp2
            go_meet
            exact ⟨rfl, rfl⟩
          · have hn := HN.out
            rw [decide_eq_false h1, decide_eq_false h2, decide_eq_false h3, decide_eq_false h4] at hn
            clear HN
            cases rf
            · simp at hn; subst hn
              go_wp2
              go_meet
              first | exact ⟨rfl, rfl⟩ | exact ⟨by rw [beq_false_of_ne g1, beq_false_of_ne g2, beq_false_of_ne g3]; rfl, rfl⟩
            · by_cases h5 : ct = 65535
              · simp [h5] at hn; subst hn
                have h6 : (ct != 65535) = false := by rw [h5]; rfl
                go_wp2
                go_meet
                first | exact ⟨rfl, rfl⟩ | exact ⟨by rw [h6]; rfl, rfl⟩ | exact ⟨by rw [beq_false_of_ne g1, beq_false_of_ne g2, beq_false_of_ne g3]; rfl, rfl⟩ | exact ⟨by rw [beq_false_of_ne g1, beq_false_of_ne g2, beq_false_of_ne g3, h6]; rfl, rfl⟩
              · simp [h5] at hn; subst hn
                have h6 : (ct != 65535) = true := by simpa using h5
                go_wp2
                go_meet
                first | exact ⟨rfl, rfl⟩ | exact ⟨by rw [h6]; rfl, rfl⟩ | exact ⟨by rw [beq_false_of_ne g1, beq_false_of_ne g2, beq_false_of_ne g3]; rfl, rfl⟩ | exact ⟨by rw [beq_false_of_ne g1, beq_false_of_ne g2, beq_false_of_ne g3, h6]; rfl, rfl⟩
  case rest =>
    obtain ⟨rfl, rfl⟩ := hcut
    have hn := HNU.out
    cases nu
    · have hz : z = false := by rw [← HZ.out]; unfold Rec.ok; rw [hn]; rfl
      subst hz
      clear hn HZ
      go_wp2
      go_ret
      exact ⟨rfl, D.out⟩
    · obtain ⟨b1, hb1⟩ : ∃ x, txOk r.sv 0 32 = x := ⟨_, rfl⟩
      obtain ⟨b2, hb2⟩ : ∃ x, txOk r.ad 1 256 = x := ⟨_, rfl⟩
      obtain ⟨b3, hb3⟩ : ∃ x, nmOk r.sb = x := ⟨_, rfl⟩
      have hz := HZ.out
      unfold Rec.ok at hz
      rw [hn, hb1, hb2, hb3, Bool.true_and] at hz
      have B1 := Lib.hid hb1; have B2 := Lib.hid hb2; have B3 := Lib.hid hb3
      clear hn hb1 hb2 hb3 HZ
      obtain ⟨c0, c1, c2, c3, c4, c5, c6, c7, c8, c9⟩ := R.out
      simp only [Nat.zero_add] at c0 c1 c2 c3 c4 c5 c6 c7 c8 c9
      cases b1
      · rw [Bool.false_and] at hz; subst hz
        go_wp2_with (go_at_call 51; go_loud (refine (TX1.out _ _ B1.out).mono ?_; rintro e w1 ⟨rfl, hw⟩; have D1 := Lib.hid (gr_tr D.out hw); clear hw))
        go_ret
        exact ⟨rfl, D1.out⟩
      · rw [Bool.true_and] at hz
        cases b2
        · rw [Bool.false_and] at hz; subst hz
          go_wp2_with (first
            | (go_at_call 51; refine (TX1.out _ _ B1.out).mono ?_; rintro e w1 ⟨rfl, hw⟩; have D1 := Lib.hid (gr_tr D.out hw); have R1 := Lib.hid (R.out.below hw); clear c0 c1 c2 c3 c4 c5 c6 c7 c8 c9 hw TX1; obtain ⟨c0, c1, c2, c3, c4, c5, c6, c7, c8, c9⟩ := R1.out; simp only [Nat.zero_add] at c0 c1 c2 c3 c4 c5 c6 c7 c8 c9)
            | (go_at_call 51; refine (TX2.out _ _ B2.out).mono ?_; rintro e w2 ⟨rfl, hw⟩; have D2 := Lib.hid (gr_tr D1.out hw); have R2 := Lib.hid (R1.out.below hw); clear c0 c1 c2 c3 c4 c5 c6 c7 c8 c9 hw TX2; obtain ⟨c0, c1, c2, c3, c4, c5, c6, c7, c8, c9⟩ := R2.out; simp only [Nat.zero_add] at c0 c1 c2 c3 c4 c5 c6 c7 c8 c9))
          go_ret
          exact ⟨rfl, D2.out⟩
        · rw [Bool.true_and] at hz
          go_wp2_with (first
            | (go_at_call 51; refine (TX1.out _ _ B1.out).mono ?_; rintro e w1 ⟨rfl, hw⟩; have D1 := Lib.hid (gr_tr D.out hw); have R1 := Lib.hid (R.out.below hw); clear c0 c1 c2 c3 c4 c5 c6 c7 c8 c9 hw TX1; obtain ⟨c0, c1, c2, c3, c4, c5, c6, c7, c8, c9⟩ := R1.out; simp only [Nat.zero_add] at c0 c1 c2 c3 c4 c5 c6 c7 c8 c9)
            | (go_at_call 51; refine (TX2.out _ _ B2.out).mono ?_; rintro e w2 ⟨rfl, hw⟩; have D2 := Lib.hid (gr_tr D1.out hw); have R2 := Lib.hid (R1.out.below hw); clear c0 c1 c2 c3 c4 c5 c6 c7 c8 c9 hw TX2; obtain ⟨c0, c1, c2, c3, c4, c5, c6, c7, c8, c9⟩ := R2.out; simp only [Nat.zero_add] at c0 c1 c2 c3 c4 c5 c6 c7 c8 c9)
            | (go_at_call 22; refine (NM.out _ _ B3.out).mono ?_; rintro e w3 ⟨rfl, hw⟩; have D3 := Lib.hid (gr_tr D2.out hw); clear c0 c1 c2 c3 c4 c5 c6 c7 c8 c9 hw))
          go_ret
          exact ⟨rfl, D3.out⟩
set_option maxRecDepth 20000 in
set_option maxHeartbeats 3200000 in
theorem rValid_at (r : Rec) (z : Bool) (w : World) (hr : r.Fit) (hz : r.ok = z) :
    Calls Tryz.prog 46 #[.agg r.cells.toArray] w fun e w' => e = .returned (.bool z) ∧ Below w.heap.size w w' := by
  have TX1 := Lib.hid (fun z w h => rtext_at r.sv 0 32 z w hr.sv (by decide) (by decide) h)
  have TX2 := Lib.hid (fun z w h => rtext_at r.ad 1 256 z w hr.ad (by decide) (by decide) h)
  have NM := Lib.hid (fun z w h => rName_at r.sb z w hr.sb h)
  have HZ := Lib.hid hz
  obtain ⟨W, hW⟩ : ∃ W, W = w.alloc (.cells r.cells.toArray 37) := ⟨_, rfl⟩
  have D := Lib.hid (show Below w.heap.size w W by rw [hW]; exact gr_alloc w _)
  have R := Lib.hid (RecAt.of_row (show W.heap[w.heap.size]? = some (.cells r.cells.toArray 37 (0, 0)) by rw [hW]; exact heap_alloc_new w _))
  have HW := Lib.hid hW
  clear hz hr hW
  obtain ⟨nu, hnu⟩ : ∃ x, r.nums = x := ⟨_, rfl⟩
  have HNU := Lib.hid hnu
  clear hnu
  have uc := uv_nonneg r.tr; have ud := uv8_lt r.tr; have ue := uv_nonneg r.fa; have uf := uv8_lt r.fa
  go_enter Tryz.func46, Tryz.ntmps46
  go_upto_region 1 with fail
  first
    | rw [← HW.out]
    | (show Code.wp _ _ _ _ (w.alloc (.cells r.cells.toArray 37)); rw [← HW.out])
  go_cut [29] (fun s wx => s = .bool (!nu) ∧ wx = W)
  case first =>
    obtain ⟨c0, c1, c2, c3, c4, c5, c6, c7, c8, c9⟩ := R.out
    simp only [Nat.zero_add] at c0 c1 c2 c3 c4 c5 c6 c7 c8 c9
    have HN := Lib.hid (nums_prog r)
    obtain ⟨tr, htr⟩ : ∃ x, uv r.tr = x := ⟨_, rfl⟩
    obtain ⟨fa, hfa⟩ : ∃ x, uv r.fa = x := ⟨_, rfl⟩
    obtain ⟨qu, hqu⟩ : ∃ x, uv r.qu = x := ⟨_, rfl⟩
    obtain ⟨ct, hct⟩ : ∃ x, uv r.ct = x := ⟨_, rfl⟩
    obtain ⟨rf, hrf⟩ : ∃ x, r.rf = x := ⟨_, rfl⟩
    rw [htr, hfa, hqu, hct, hrf, HNU.out] at HN
    rw [htr] at c0 uc ud; rw [hfa] at c1 ue uf; rw [hqu] at c6; rw [hct] at c5; rw [hrf] at c2
    clear htr hfa hqu hct hrf R HNU
    by_cases h1 : tr < 1
    · have hn := HN.out; rw [decide_eq_true h1] at hn; simp at hn; subst hn; clear HN
      obtain ⟨g1, _⟩ : tr = 0 ∧ True := ⟨by omega, trivial⟩; go_wp2
      go_meet
      exact ⟨rfl, rfl⟩
    · by_cases h2 : 254 < tr
      · have hn := HN.out; rw [decide_eq_true h2] at hn; simp at hn; subst hn; clear HN
        obtain ⟨g1, g2⟩ : tr ≠ 0 ∧ tr = 255 := ⟨by omega, by omega⟩; go_wp2
        go_meet
        exact ⟨rfl, rfl⟩
      · by_cases h3 : 254 < fa
        · have hn := HN.out; rw [decide_eq_true h3] at hn; simp at hn; subst hn; clear HN
          obtain ⟨g1, g2, g3⟩ : tr ≠ 0 ∧ tr ≠ 255 ∧ fa = 255 := ⟨by omega, by omega, by omega⟩; go_wp2
          go_meet
          exact ⟨rfl, rfl⟩
        · by_cases h4 : qu < 32
          · have hn := HN.out; rw [decide_eq_true h4] at hn; simp at hn; subst hn; clear HN
            obtain ⟨g1, g2, g3⟩ : tr ≠ 0 ∧ tr ≠ 255 ∧ fa ≠ 255 := ⟨by omega, by omega, by omega⟩; go_wp2
            go_meet
            exact ⟨rfl, rfl⟩
          · have hn := HN.out
            rw [decide_eq_false h1, decide_eq_false h2, decide_eq_false h3, decide_eq_false h4] at hn
            clear HN
            cases rf
            · simp at hn; subst hn
              obtain ⟨g1, g2, g3⟩ : tr ≠ 0 ∧ tr ≠ 255 ∧ fa ≠ 255 := ⟨by omega, by omega, by omega⟩; go_wp2
              go_meet
              first | exact ⟨rfl, rfl⟩ | exact ⟨by rw [beq_false_of_ne g1, beq_false_of_ne g2, beq_false_of_ne g3]; rfl, rfl⟩
            · by_cases h5 : ct = 65535
              · simp [h5] at hn; subst hn
                have h6 : (ct != 65535) = false := by rw [h5]; rfl
                obtain ⟨g1, g2, g3⟩ : tr ≠ 0 ∧ tr ≠ 255 ∧ fa ≠ 255 := ⟨by omega, by omega, by omega⟩; go_wp2
                go_meet
                first | exact ⟨rfl, rfl⟩ | exact ⟨by rw [h6]; rfl, rfl⟩ | exact ⟨by rw [beq_false_of_ne g1, beq_false_of_ne g2, beq_false_of_ne g3]; rfl, rfl⟩ | exact ⟨by rw [beq_false_of_ne g1, beq_false_of_ne g2, beq_false_of_ne g3, h6]; rfl, rfl⟩
              · simp [h5] at hn; subst hn
                have h6 : (ct != 65535) = true := by simpa using h5
                obtain ⟨g1, g2, g3⟩ : tr ≠ 0 ∧ tr ≠ 255 ∧ fa ≠ 255 := ⟨by omega, by omega, by omega⟩; go_wp2
                go_meet
                first | exact ⟨rfl, rfl⟩ | exact ⟨by rw [h6]; rfl, rfl⟩ | exact ⟨by rw [beq_false_of_ne g1, beq_false_of_ne g2, beq_false_of_ne g3]; rfl, rfl⟩ | exact ⟨by rw [beq_false_of_ne g1, beq_false_of_ne g2, beq_false_of_ne g3, h6]; rfl, rfl⟩
  case rest =>
    obtain ⟨rfl, rfl⟩ := hcut
    have hn := HNU.out
    cases nu
    · have hz : z = false := by rw [← HZ.out]; unfold Rec.ok; rw [hn]; rfl
      subst hz
      clear hn HZ
      go_wp2
      go_ret
      exact ⟨rfl, D.out⟩
    · obtain ⟨b1, hb1⟩ : ∃ x, txOk r.sv 0 32 = x := ⟨_, rfl⟩
      obtain ⟨b2, hb2⟩ : ∃ x, txOk r.ad 1 256 = x := ⟨_, rfl⟩
      obtain ⟨b3, hb3⟩ : ∃ x, nmOk r.sb = x := ⟨_, rfl⟩
      have hz := HZ.out
      unfold Rec.ok at hz
      rw [hn, hb1, hb2, hb3, Bool.true_and] at hz
      have B1 := Lib.hid hb1; have B2 := Lib.hid hb2; have B3 := Lib.hid hb3
      clear hn hb1 hb2 hb3 HZ
      obtain ⟨c0, c1, c2, c3, c4, c5, c6, c7, c8, c9⟩ := R.out
      simp only [Nat.zero_add] at c0 c1 c2 c3 c4 c5 c6 c7 c8 c9
      cases b1
      · rw [Bool.false_and] at hz; subst hz
        go_wp2_with (go_at_call 65; go_loud (refine (TX1.out _ _ B1.out).mono ?_; rintro e w1 ⟨rfl, hw⟩; have D1 := Lib.hid (gr_tr D.out hw); clear hw))
        go_ret
        exact ⟨rfl, D1.out⟩
      · rw [Bool.true_and] at hz
        cases b2
        · rw [Bool.false_and] at hz; subst hz
          go_wp2_with (first
            | (go_at_call 65; refine (TX1.out _ _ B1.out).mono ?_; rintro e w1 ⟨rfl, hw⟩; have D1 := Lib.hid (gr_tr D.out hw); have R1 := Lib.hid (R.out.below hw); clear c0 c1 c2 c3 c4 c5 c6 c7 c8 c9 hw TX1; obtain ⟨c0, c1, c2, c3, c4, c5, c6, c7, c8, c9⟩ := R1.out; simp only [Nat.zero_add] at c0 c1 c2 c3 c4 c5 c6 c7 c8 c9)
            | (go_at_call 65; refine (TX2.out _ _ B2.out).mono ?_; rintro e w2 ⟨rfl, hw⟩; have D2 := Lib.hid (gr_tr D1.out hw); have R2 := Lib.hid (R1.out.below hw); clear c0 c1 c2 c3 c4 c5 c6 c7 c8 c9 hw TX2; obtain ⟨c0, c1, c2, c3, c4, c5, c6, c7, c8, c9⟩ := R2.out; simp only [Nat.zero_add] at c0 c1 c2 c3 c4 c5 c6 c7 c8 c9))
          go_ret
          exact ⟨rfl, D2.out⟩
        · rw [Bool.true_and] at hz
          go_wp2_with (first
            | (go_at_call 65; refine (TX1.out _ _ B1.out).mono ?_; rintro e w1 ⟨rfl, hw⟩; have D1 := Lib.hid (gr_tr D.out hw); have R1 := Lib.hid (R.out.below hw); clear c0 c1 c2 c3 c4 c5 c6 c7 c8 c9 hw TX1; obtain ⟨c0, c1, c2, c3, c4, c5, c6, c7, c8, c9⟩ := R1.out; simp only [Nat.zero_add] at c0 c1 c2 c3 c4 c5 c6 c7 c8 c9)
            | (go_at_call 65; refine (TX2.out _ _ B2.out).mono ?_; rintro e w2 ⟨rfl, hw⟩; have D2 := Lib.hid (gr_tr D1.out hw); have R2 := Lib.hid (R1.out.below hw); clear c0 c1 c2 c3 c4 c5 c6 c7 c8 c9 hw TX2; obtain ⟨c0, c1, c2, c3, c4, c5, c6, c7, c8, c9⟩ := R2.out; simp only [Nat.zero_add] at c0 c1 c2 c3 c4 c5 c6 c7 c8 c9)
            | (go_at_call 45; refine (NM.out _ _ B3.out).mono ?_; rintro e w3 ⟨rfl, hw⟩; have D3 := Lib.hid (gr_tr D2.out hw); clear c0 c1 c2 c3 c4 c5 c6 c7 c8 c9 hw))
          go_ret
          exact ⟨rfl, D3.out⟩
end Go.Proofs.YtjcgdenkmmgmfaaGreatDoor
