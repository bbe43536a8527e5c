/- Discovery: Add. Printed by gendsck.py. -/
import Derived.Test.YtjcgdenkmmgmfaaGreatDoorDscJ
namespace Go.Proofs.YtjcgdenkmmgmfaaGreatDoor
open Go.RowKit Dsc
set_option linter.unusedVariables false
set_option linter.unusedSimpArgs false
theorem entsOk : ElemOk Tryz.prog 26 70 (.agg #[.int .u8 0, .int .u8 0, .bool false, .bool false, .int .u16 0, .int .u16 0, .int .u16 0, .string ⟨#[]⟩, .string ⟨#[]⟩, .string ⟨#[]⟩, .slice none 0 0]) 11 88 :=
  ⟨Tryz.underlying26, info_parts (by kernel_rfl), rfl, by decide⟩
theorem Addfn_at (s : List (BitVec 8)) (b : Bool) (w : World) (hs : s.length ≤ 9223372036854775807) (hb : nmOk s = b) :
    Calls Tryz.prog 31 #[.string (strOf s)] w fun e w' => e = .returned (.bool (!b)) ∧ Below w.heap.size w w' := by
  have VN := Lib.hid (fun w => ValidName_at s b w hs hb)
  obtain ⟨st, hst⟩ : ∃ st, strOf s = st := ⟨_, rfl⟩
  rw [hst] at VN ⊢
  clear hb hst hs
  go_enter Tryz.func31, Tryz.ntmps31
  go_wp2_with (go_at_call 22; go_loud (refine (VN.out _).mono ?_; rintro e w2 ⟨rfl, hw⟩))
  go_ret
  exact ⟨rfl, hw⟩
theorem str_rng {w : World} {v : Value} {hs : List (List (BitVec 8))} (h : SliceV w strC v hs) (i : Nat) (s : List (BitVec 8)) (hi : hs[i]? = some s) : ∃ g o c, v = .slice (some ⟨g, o, none⟩) hs.length c ∧ w.cell? ⟨g, o + i, none⟩ = some (.string (strOf s)) := by
  obtain ⟨g, o, c, e, hr⟩ := SliceV.rng (f := strC) (k := 1) (fun _ => rfl) h i s hi (by decide)
  have := hr 0 (.string (strOf s)) rfl
  rw [Nat.mul_one, Nat.add_zero] at this
  exact ⟨g, o, c, e, this⟩
set_option maxHeartbeats 1600000 in
theorem idxHosts_at (v : Value) (hs : List (List (BitVec 8))) (w : World) (hv : SliceV w strC v hs) (hl : ∀ s ∈ hs, s.length ≤ 9223372036854775807) (hn : hs.length ≤ 256) :
    Calls Tryz.prog 52 #[v, .func (.func 31) #[] #[]] w fun e w' => (∃ j : Int, e = .returned (.int .i64 j) ∧ decide (0 ≤ j) = !(hs.all nmOk)) ∧ Below w.heap.size w w' := by
  have S := Lib.hid hv; have HL := Lib.hid hl
  obtain ⟨a, c, rfl, -⟩ := id hv
  obtain ⟨n, hnn⟩ : ∃ n, hs.length = n := ⟨_, rfl⟩
  rw [hnn] at hn ⊢
  have HN := Lib.hid hnn
  clear hv hl hnn
  go_enter Tryz.func52, Tryz.ntmps52
  go_wp2
  go_loopw [5, 8] (fun _ i wr => ∃ k : Nat, k ≤ n ∧ i = .int .i64 k ∧ Hid ((hs.take k).all nmOk = true) ∧ Below w.heap.size w wr) (fun _ i _ => n - (intOf i).toNat)
  case atStart => exact ⟨0, by omega, rfl, Lib.hid rfl, Below.refl _ _⟩
  case round =>
    obtain ⟨k, hk, rfl, hA, hb⟩ := hrel
    have C := Lib.hid hb
    clear hb
    by_cases hlt : k < n
    · obtain ⟨s, hs1⟩ : ∃ s, hs[k]? = some s := ⟨_, List.getElem?_eq_getElem (by rw [HN.out]; exact hlt)⟩
      obtain ⟨gq, o, cq, he, hc⟩ := str_rng S.out k s hs1
      injection he with he he' he''
      subst he; subst he''
      obtain ⟨b, hb⟩ : ∃ b, nmOk s = b := ⟨_, rfl⟩
      have AF := Lib.hid (fun w => Addfn_at s b w (HL.out s (List.mem_of_getElem? hs1)) hb)
      have hc2 : wr.cell? ⟨gq, o + k, none⟩ = some (.string (strOf s)) := below_cellE C.out hc
      have ALM := Lib.hid (fun h => all_more nmOk hs k s hs1 (by rw [hb]; exact h) hA.out)
      have ALN := Lib.hid (fun h => all_no nmOk hs k s hs1 (by rw [hb]; exact h))
      obtain ⟨st, hst⟩ : ∃ st, strOf s = st := ⟨_, rfl⟩
      rw [hst] at AF hc2
      clear hs1 hb hst hc he'
      cases b
      · go_wp2_with (go_at_call 31; go_loud (refine (AF.out _).mono ?_; rintro e w3 ⟨rfl, hw⟩; have C3 := Lib.hid (gr_tr C.out hw); clear hw))
        go_ret
        exact ⟨⟨_, rfl, by rw [ALN.out (by trivial), decide_eq_true (by omega)]; rfl⟩, C3.out⟩
      · go_wp2_with (go_at_call 31; go_loud (refine (AF.out _).mono ?_; rintro e w3 ⟨rfl, hw⟩; have C3 := Lib.hid (gr_tr C.out hw); clear hw))
        go_roundw
        case rel => exact ⟨k + 1, by omega, by go_num, Lib.hid (ALM.out (by trivial)), C3.out⟩
        case measure => simp [intOf]; omega
    · obtain rfl : k = n := by omega
      have hall : hs.all nmOk = true := by have := hA.out; rwa [List.take_of_length_le (by rw [HN.out]; exact Nat.le_refl _)] at this
      have HALL := Lib.hid hall
      clear hall
      go_wp2
      go_ret
      exact ⟨⟨-1, rfl, by rw [HALL.out]; rfl⟩, C.out⟩
theorem conHosts_at (v : Value) (hs : List (List (BitVec 8))) (b : Bool) (w : World) (hv : SliceV w strC v hs) (hl : ∀ s ∈ hs, s.length ≤ 9223372036854775807) (hn : hs.length ≤ 256) (hb : hs.all nmOk = b) :
    Calls Tryz.prog 30 #[v, .func (.func 31) #[] #[]] w fun e w' => e = .returned (.bool (!b)) ∧ Below w.heap.size w w' := by
  have IX := Lib.hid (fun w h => idxHosts_at v hs w h hl hn)
  rw [hb] at IX
  have S := Lib.hid hv
  obtain ⟨a, c, rfl, -⟩ := id hv
  clear hv hl hb hn
  go_enter Tryz.func30, Tryz.ntmps30
  go_wp2_with (go_at_call 52; go_loud (refine (IX.out _ S.out).mono ?_; rintro e w2 ⟨⟨j, rfl, hj⟩, hw⟩; have HJ := Lib.hid hj; clear hj))
  go_ret
  exact ⟨by rw [← HJ.out]; rfl, hw⟩
theorem cloneHosts_at (v : Value) (hs : List (List (BitVec 8))) (w : World) (hv : SliceV w strC v hs) (hn : hs.length ≤ 256) :
    Calls Tryz.prog 33 #[v] w fun e w' => ∃ u, e = .returned u ∧ w'.ownsRow w.heap.size 9 1 u hs.length (hs.flatMap strC) ∧ Below w.heap.size w w' := by
  obtain ⟨a, c, rfl, h0, h1, h2, h3⟩ := id hv
  cases a with
  | none =>
    have : hs = [] := List.length_eq_zero_iff.1 (by have := h0 rfl; omega)
    subst this
    refine (Tryz.slices_Clone_string_nil 0 c w).mono ?_
    rintro e w' ⟨rfl, rfl⟩
    exact ⟨_, rfl, World.ownsRow_nil _ _ _ _, Below.refl _ _⟩
  | some ad =>
    by_cases hz : hs = []
    · subst hz
      refine (Tryz.slices_Clone_string_zero ad c w).mono ?_
      rintro e w' ⟨v', rfl, ho, -, hb⟩
      exact ⟨_, rfl, ho, hb⟩
    · obtain ⟨s, hs0⟩ : ∃ s, hs[0]? = some s := ⟨_, List.getElem?_eq_getElem (List.length_pos_iff.2 hz)⟩
      obtain ⟨g, o, c', e, -⟩ := str_rng hv 0 s hs0
      injection e with e e1 e2
      injection e with e
      subst e
      have hcell : ∀ j, j < (hs.map strOf).length → w.cell? ⟨g, o + j, none⟩ = some (.string ((hs.map strOf).getD j ByteArray.empty)) := fun j hj => by
        rw [List.length_map] at hj
        obtain ⟨g', o', c'', e', hc⟩ := str_rng hv j hs[j] (List.getElem?_eq_getElem hj)
        injection e' with e' _ _
        injection e' with e'
        injection e' with e1 e2
        subst e1; subst e2
        rw [hc, List.getD_eq_getElem?_getD, List.getElem?_map, List.getElem?_eq_getElem hj]; rfl
      refine (Tryz.slices_Clone_string g o hs.length c (hs.map strOf) w (by rw [List.length_map]; exact Nat.le_refl _) (by omega) hcell).mono ?_
      rintro e w' ⟨v', rfl, ho, -, hb⟩
      refine ⟨_, rfl, ?_, hb⟩
      rw [List.take_of_length_le (by rw [List.length_map]; exact Nat.le_refl _), List.map_map] at ho
      have : hs.flatMap strC = hs.map (Value.string ∘ strOf) := flat_one (fun s => Value.string (strOf s)) hs
      rw [this]; exact ho
end Go.Proofs.YtjcgdenkmmgmfaaGreatDoor
