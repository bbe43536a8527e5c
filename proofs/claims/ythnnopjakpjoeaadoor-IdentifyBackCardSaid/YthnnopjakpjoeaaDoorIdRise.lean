/- identify.rising: whether the elements of a list increase (slices.IsSorted, Clone, Compact). Printed by genrise.py. -/
import Derived.Test.YthnnopjakpjoeaaDoorApp
import Derived.Test.YthnnopjakpjoeaaDoorRegion
import Derived.Test.YthnnopjakpjoeaaDoorOpenG
import Derived.Test.YthnnopjakpjoeaaDoorChg
import Derived.Deep.DeepCutAuto
import Derived.Lib.SliceRun
namespace Go.Proofs.YthnnopjakpjoeaaDoor
open Go.RowKit
set_option linter.unusedVariables false
set_option linter.unusedSimpArgs false
namespace Rise
variable {n : Nat}
def Srt (l : List (BitVec n)) : Prop := ∀ t a b, l[t]? = some a → l[t + 1]? = some b → ¬ uv b < uv a
def NoDup (l : List (BitVec n)) : Prop := ∀ t a b, l[t]? = some a → l[t + 1]? = some b → a ≠ b
def Strict (l : List (BitVec n)) : Prop := ∀ t a b, l[t]? = some a → l[t + 1]? = some b → uv a < uv b
def SrtFrom (l : List (BitVec n)) (j : Nat) : Prop := ∀ t a b, j ≤ t + 1 → l[t]? = some a → l[t + 1]? = some b → ¬ uv b < uv a
theorem strict_iff (l : List (BitVec n)) : Strict l ↔ Srt l ∧ NoDup l := by
  constructor
  · intro h
    refine ⟨fun t a b h1 h2 => ?_, fun t a b h1 h2 e => ?_⟩
    · have := h t a b h1 h2; omega
    · have := h t a b h1 h2; subst e; omega
  · rintro ⟨h1, h2⟩ t a b h3 h4
    have e1 := h1 t a b h3 h4
    have e2 := h2 t a b h3 h4
    have : uv a ≠ uv b := fun e => e2 (uv_inj e)
    omega
end Rise
open Rise
def NoDupTo {n : Nat} (l : List (BitVec n)) (k : Nat) : Prop := ∀ t a b, t + 1 < k → l[t]? = some a → l[t + 1]? = some b → a ≠ b
theorem own_shapeR {w : World} {base : Nat} {e : TypeId} {size : Nat} {v : Value} {n : Nat} {xs : List Value} (h : w.ownsRow base e size v n xs) : ∃ a c, v = .slice a n c := by
  obtain ⟨h1, h2⟩ := h
  rcases h2 with ⟨rfl, rfl⟩ | ⟨g, cap, cur, hv, _⟩
  · exact ⟨_, _, rfl⟩
  · exact ⟨_, _, hv⟩
theorem own_addrR {w : World} {base n : Nat} {e : TypeId} {v : Value} {xs : List Value} (h : w.ownsRow base e 1 v n xs) (hn : 0 < n) : ∃ g c, v = .slice (some ⟨g, 0, none⟩) n c ∧ base ≤ g ∧ n ≤ c ∧ c ≤ 9223372036854775807 := by
  obtain ⟨h1, h2⟩ := h
  rcases h2 with ⟨_, h0⟩ | ⟨g, cap, cur, rfl, hg, _, r1, r2, _⟩
  · omega
  · exact ⟨g, cap, rfl, hg, r1, r2⟩
theorem run_fromT (T E : TypeId) (ht : Tryd.prog.underlying T = some (.slice E)) (hs : (Tryd.prog.info? E).map (·.size) = some 1) (g n c p : Nat) (hp : p ≤ n) (hnc : n ≤ c) (hpc : p < c) (hc : c ≤ 9223372036854775807) (w' : World) :
    (Instr.slice T (.slice (some ⟨g, 0, none⟩) n c) (some (.int .i64 p)) none none).run Tryd.prog w' = .ok (.slice (some ⟨g, p, none⟩) (n - p) (c - p)) w' := by
  have he : Tryd.prog.elem T = E := by simp [Program.elem, ht]
  have ht' : Tryd.prog.underlying T = some (.slice (Tryd.prog.elem T)) := by rw [he]; exact ht
  have hz : (sizeOf (Tryd.prog.elem T)).run Tryd.prog w' = .ok 1 w' := by
    rw [he]
    obtain ⟨i, hi, hi'⟩ := Option.map_eq_some_iff.1 hs
    simp [sizeOf, typeInfo, hi, hi']
  rw [run_slice_l w' T (some ⟨g, 0, none⟩) n c ht' .i64 p (by omega) (by omega), hz]
  simp only [Result.andThen, sliced, Option.map_some, Nat.mul_one, Addr.add_lit, Nat.zero_add, Int.toNat_natCast]
  rw [if_neg (by omega)]
theorem below_setCells {B g : Nat} {w0 w : World} (hb : Below B w0 w) (hg : B ≤ g) (o : Nat) (cs : List Value) : Below B w0 (w.setCells g o cs) := by
  induction cs generalizing w o with
  | nil => exact hb
  | cons c cs ih => exact ih (hb.setCell (p := ⟨g, o, none⟩) hg c) (o + 1)
def BoolOut (w : World) (p : Prop) (e : Ending) (w' : World) : Prop := ∃ b : Bool, e = .returned (.bool b) ∧ (b = true ↔ p) ∧ Below w.heap.size w w'
def LenOut (w : World) (base n : Nat) (p : Prop) (e : Ending) (w' : World) : Prop := ∃ a m c, e = .returned (.slice a m c) ∧ (p → m = n) ∧ (¬ p → m < n) ∧ m ≤ 9223372036854775807 ∧ Below base w w'
def nu32 (l : List (BitVec 32)) : List Value := l.map fun y => .int .u32 (uv y)
theorem nu32_get (l : List (BitVec 32)) (i : Nat) : (nu32 l)[i]? = l[i]?.map fun y => .int .u32 (uv y) := by simp [nu32]
theorem nu32_one (l : List (BitVec 32)) : ∀ u ∈ nu32 l, u.oneCell' = true := by
  intro u hu
  obtain ⟨x, _, rfl⟩ := List.mem_map.1 hu
  rfl
theorem nu32_row {w : World} {a : Option Addr} {l : List (BitVec 32)} (h : Row w a (l.flatMap (fun y : BitVec 32 => [Value.int .u32 (uv y)]))) : Row w a (nu32 l) := by rw [flat_one] at h; exact h
theorem nan_u32 (a : BitVec 32) (w : World) : Calls Tryd.prog 203 #[.int .u32 (uv a)] w fun e w' => e = .returned (.bool false) ∧ w = w' := by
  go_enter Tryd.func203, Tryd.ntmps203
  go_wp2
  go_ret
  exact ⟨by simp, rfl⟩
theorem less_u32 (a b : BitVec 32) (r : Bool) (w : World) (h : decide (uv a < uv b) = r) : Calls Tryd.prog 189 #[.int .u32 (uv a), .int .u32 (uv b)] w fun e w' => e = .returned (.bool r) ∧ w = w' := by
  go_enter Tryd.func189, Tryd.ntmps189
  go_wp2_with (go_at_call 203; go_loud (refine (nan_u32 _ _).mono ?_; rintro r w' ⟨rfl, rfl⟩))
  go_ret
  exact ⟨rfl, rfl⟩
theorem less_qu32 (a b : BitVec 32) (r : Bool) (w : World) (n : Nat) (h : decide (uv a < uv b) = r) : Calls Tryd.prog 189 #[.int .u32 (uv a), .int .u32 (uv b)] (w.drewN n) fun e w' => e = .returned (.bool r) ∧ ∃ m, w' = w.drewN m :=
  Calls.quiet_of_same ((less_u32 a b r _ h).mono fun _ _ h => ⟨h.1, h.2.symm⟩)
set_option maxHeartbeats 1600000 in
theorem sorted_u32 (v : Value) (l : List (BitVec 32)) (w : World) (hv : SliceV w (fun y : BitVec 32 => [Value.int .u32 (uv y)]) v l) (hl : l.length ≤ 1000000) :
    Calls Tryd.prog 157 #[v] w (BoolOut w (Srt l)) := by
  obtain ⟨a, c, rfl, -, hlc, hc, hrow⟩ := hv
  have ROW := Lib.hid (nu32_row hrow); clear hrow
  go_enter Tryd.func157, Tryd.ntmps157
  go_wp2
  go_loopw [3] (fun i wr => ∃ j : Nat, j ≤ l.length ∧ i = .int .i64 ((j : Int) - 1) ∧ Hid (SrtFrom l j) ∧ Below w.heap.size w wr) (fun i _ => (intOf i + 1).toNat)
  case atStart => exact ⟨l.length, by omega, rfl, Lib.hid (fun t a b h h1 h2 => by have := (List.getElem?_eq_some_iff.1 h2).1; omega), Below.refl _ _⟩
  case round =>
    obtain ⟨j, hj, rfl, hs, hb⟩ := hrel
    have B := Lib.hid hb; clear hb
    match j, hj, hs with
    | 0, hj, hs =>
      have e : ((0 : Nat) : Int) - 1 = -1 := rfl
      rw [e]
      have S := Lib.hid (show Srt l from fun t a b h1 h2 => hs.out t a b (by omega) h1 h2)
      go_wp2
      go_ret
      exact ⟨true, rfl, ⟨fun _ => S.out, fun _ => rfl⟩, B.out⟩
    | 1, hj, hs =>
      have e : ((1 : Nat) : Int) - 1 = 0 := rfl
      rw [e]
      have S := Lib.hid (show Srt l from fun t a b h1 h2 => hs.out t a b (by omega) h1 h2)
      go_wp2
      go_ret
      exact ⟨true, rfl, ⟨fun _ => S.out, fun _ => rfl⟩, B.out⟩
    | q + 2, hj, hs =>
      have e : ((q + 2 : Nat) : Int) - 1 = (q : Int) + 1 := by omega
      rw [e]; clear e
      obtain ⟨x, hx⟩ : ∃ x, l[q]? = some x := ⟨_, List.getElem?_eq_getElem (by omega)⟩
      obtain ⟨y, hy⟩ : ∃ x, l[q + 1]? = some x := ⟨_, List.getElem?_eq_getElem (by omega)⟩
      obtain ⟨g, o, rfl, c0⟩ := (ROW.out.below B.out).at (i := q) (v := .int .u32 (uv x)) (by rw [nu32_get, hx]; rfl)
      obtain ⟨g', o', ee, c1⟩ := (ROW.out.below B.out).at (i := q + 1) (v := .int .u32 (uv y)) (by rw [nu32_get, hy]; rfl)
      cases ee
      have w1 : IntKind.i64.wrap ((q : Int) + 1 - 1) = (q : Int) := by unfold IntKind.wrap; simp [IntKind.bits, IntKind.signed]; omega
      have w2 : (q : Int) + 1 - 1 = (q : Int) := by omega
      have HX := Lib.hid hx; have HY := Lib.hid hy
      obtain ⟨r, hr⟩ : ∃ r, decide (uv y < uv x) = r := ⟨_, rfl⟩
      have HR := Lib.hid hr
      clear hx hy hr
      cases r
      · go_wp2
        go_quiet ((go_at_call 189; exact less_qu32 _ _ false _ _ HR.out))
        go_wp2
        go_roundw
        case rel => exact ⟨q + 1, by omega, by go_num, Lib.hid (fun t a b h h1 h2 => by
          by_cases e : t = q
          · subst e; rw [HX.out] at h1; rw [HY.out] at h2; cases h1; cases h2; exact of_decide_eq_false HR.out
          · exact hs.out t a b (by omega) h1 h2), B.out.trans ((gr_drewN _ _).mono B.out.size)⟩
        case measure => simp [intOf]; omega
      · go_wp2
        go_quiet ((go_at_call 189; exact less_qu32 _ _ true _ _ HR.out))
        go_wp2
        go_ret
        exact ⟨false, rfl, ⟨(fun h => by cases h), fun h => absurd (of_decide_eq_true HR.out) (h q _ _ HX.out HY.out)⟩, B.out.trans ((gr_drewN _ _).mono B.out.size)⟩
theorem ownu32 : ElemOk Tryd.prog 89 24 (.int .u32 0) 1 4 :=
  ⟨Tryd.underlying89, info_parts (by kernel_rfl), rfl, by decide⟩
theorem clone_u32 (v : Value) (l : List (BitVec 32)) (w : World) (hv : SliceV w (fun y : BitVec 32 => [Value.int .u32 (uv y)]) v l) (hs : l.length ≤ 1000000) :
    Calls Tryd.prog 159 #[v] w fun e w' => ∃ u, e = .returned u ∧ w'.ownsRow w.heap.size 24 1 u l.length (nu32 l) ∧ Below w.heap.size w w' := by
  obtain ⟨a, c, rfl, h0, h1, h2, h3⟩ := hv
  have h3 := nu32_row h3
  cases a with
  | none =>
    have hc := h0 rfl
    have hl : l = [] := List.length_eq_zero_iff.1 (by omega)
    subst hl
    have hq := fun (w : World) n c => Lib.run_eql_slice_nil (P := Tryd.prog) w 89 24 none n c 0 0 Tryd.underlying89
    go_enter Tryd.func159, Tryd.ntmps159
    go_wp2
    go_ret
    exact ⟨_, rfl, World.ownsRow_nil _ _ _ _, Below.refl _ _⟩
  | some ad =>
    have hq := fun (w : World) n c => Lib.run_eql_slice_nil (P := Tryd.prog) w 89 24 (some ad) n c 0 0 Tryd.underlying89
    go_enter Tryd.func159, Tryd.ntmps159
    go_wp2_with (at_builtin; refine app_law ownu32 rfl _ _ rfl w.heap.size (.slice (some ⟨w.heap.size, 0, none⟩) 0 0) 0 [] rfl (World.ownsRow_made w #[] 0 (Nat.le_refl _) (by decide) rfl) (some ad) l.length c (nu32 l) rfl (by simp) h1 (h3.below (gr_alloc _ _)) (by simp [nu32]) (nu32_one l) (by omega) (by omega) (by simp) ?_; intro v' w' hown hgrow _; simp only [Nat.zero_add, List.nil_append] at hown)
    go_ret
    exact ⟨_, rfl, hown, (gr_alloc w _).grown hgrow (by simp) (by intro k hk; simp [Value.ownBlock] at hk; omega)⟩
theorem eszu32 : (Tryd.prog.info? 24).map (·.size) = some 1 := by kernel_rfl
set_option maxHeartbeats 3200000 in
set_option maxRecDepth 8000 in
theorem compact_u32 (u : Value) (base : Nat) (l : List (BitVec 32)) (w : World) (ho : w.ownsRow base 24 1 u l.length (nu32 l)) (hl : l.length ≤ 1000000) :
    Calls Tryd.prog 158 #[u] w (LenOut w base l.length (NoDup l)) := by
  by_cases h2 : l.length < 2
  · obtain ⟨a, c, rfl⟩ := own_shapeR ho
    have d1 : decide (l.length < 2) = true := decide_eq_true h2
    have d2 : decide ((l.length : Int) < 2) = true := decide_eq_true (by omega)
    have ND := Lib.hid (show NoDup l from fun t a b h3 h4 => by have := (List.getElem?_eq_some_iff.1 h4).1; omega)
    have HL := Lib.hid hl
    clear h2 hl
    go_enter Tryd.func158, Tryd.ntmps158
    go_wp2
    go_ret
    exact ⟨a, l.length, c, rfl, fun _ => rfl, fun h => absurd ND.out h, by have := HL.out; omega, Below.refl _ _⟩
  · obtain ⟨g, cap, rfl, hg, hnc, hcm⟩ := own_addrR ho (by omega)
    have d2 : decide ((l.length : Int) < 2) = false := decide_eq_false (by omega)
    have O := Lib.hid ho; have HG := Lib.hid hg; have HN := Lib.hid hnc; have HC := Lib.hid hcm
    have hm : l.length ≤ 9223372036854775807 := by omega
    have hlen2 : 2 ≤ l.length := by omega
    clear ho hg hnc hcm h2
    go_enter Tryd.func158, Tryd.ntmps158
    go_wp2
    go_loopw [3] (fun i wr => ∃ k : Nat, 1 ≤ k ∧ k ≤ l.length ∧ i = .int .i64 k ∧ Hid (NoDupTo l k) ∧ Below base w wr ∧ wr.ownsRow base 24 1 (.slice (some ⟨g, 0, none⟩) l.length cap) l.length (nu32 l)) (fun i _ => l.length - (intOf i).toNat)
    case atStart => exact ⟨1, by omega, by omega, rfl, Lib.hid (fun t a b h => absurd h (by omega)), Below.refl _ _, O.out⟩
    case round =>
      obtain ⟨k, hk1, hk, rfl, hnd, hb, ho⟩ := hrel
      have OW := Lib.hid ho; have B := Lib.hid hb; clear ho hb
      by_cases hlt : k < l.length
      · obtain ⟨q, rfl⟩ : ∃ q, k = q + 1 := ⟨k - 1, by omega⟩
        obtain ⟨x, hx⟩ : ∃ x, l[q]? = some x := ⟨_, List.getElem?_eq_getElem (by omega)⟩
        obtain ⟨y, hy⟩ : ∃ x, l[q + 1]? = some x := ⟨_, List.getElem?_eq_getElem (by omega)⟩
        have c0 : wr.cell? ⟨g, q, none⟩ = some (.int .u32 (uv x)) := by rw [OW.out.cellAt q (by omega), nu32_get, hx]; rfl
        have c1 : wr.cell? ⟨g, q + 1, none⟩ = some (.int .u32 (uv y)) := by rw [OW.out.cellAt (q + 1) (by omega), nu32_get, hy]; rfl
        have e : ((q + 1 : Nat) : Int) = (q : Int) + 1 := by omega
        rw [e]; clear e
        have w1 : IntKind.i64.wrap ((q : Int) + 1 - 1) = (q : Int) := by unfold IntKind.wrap; simp [IntKind.bits, IntKind.signed]; omega
        have w2 : (q : Int) + 1 - 1 = (q : Int) := by omega
        have HX := Lib.hid hx; have HY := Lib.hid hy
        obtain ⟨r, hr⟩ : ∃ r, (y == x) = r := ⟨_, rfl⟩
        have HR := Lib.hid hr
        clear hx hy
        cases r
        · have dq : (uv y == uv x) = false := by rw [uv_beq]; exact hr
          clear hr
          go_wp2
          go_quiet (skip)
          go_wp2
          go_roundw
          case rel => exact ⟨q + 2, by omega, by omega, by go_num, Lib.hid (fun t a b h h1 h2 => by
            by_cases e : t = q
            · subst e; rw [HX.out] at h1; rw [HY.out] at h2; cases h1; cases h2; intro e; subst e; have := HR.out; simp at this
            · exact hnd.out t a b (by omega) h1 h2), B.out.trans ((gr_drewN _ _).mono (by have := OW.out.lt g rfl; omega)), own_below OW.out (gr_drewN _ _)⟩
          case measure => simp [intOf]; omega
        · have dq : (uv y == uv x) = true := by rw [uv_beq]; exact hr
          have ND := Lib.hid (show ¬ NoDup l from fun h => h q x y HX.out HY.out (by have := HR.out; simp at this; exact this.symm))
          clear hr
          obtain ⟨N2, hN2⟩ : ∃ N2, l.length - (q + 1) = N2 := ⟨_, rfl⟩
          have hr1 : ∀ w', (Instr.slice 89 (.slice (some ⟨g, 0, none⟩) l.length cap) (some (.int .i64 ((q : Int) + 1))) none none).run Tryd.prog w' = .ok (.slice (some ⟨g, q + 1, none⟩) N2 (cap - (q + 1))) w' := by
            intro w'
            have := run_fromT 89 24 Tryd.underlying89 eszu32 g l.length cap (q + 1) (by omega) HN.out (by have := HN.out; omega) HC.out w'
            rw [hN2] at this
            rwa [show ((q + 1 : Nat) : Int) = (q : Int) + 1 by omega] at this
          have HN2 := Lib.hid hN2
          have hN2b : N2 + (q + 1) ≤ 1000000 := by omega
          clear hN2
          go_wp2
          go_quiet (skip)
          go_wp2
          clear c0 c1 dq w1 w2
          have B1 := Lib.hid (OW.out.lt g rfl)
          go_loopw [3, 5] (fun i3 i5 wr => ∃ (K K2 : Nat) (l' : List (BitVec 32)), 1 ≤ K ∧ 1 ≤ K2 ∧ K2 ≤ N2 ∧ K ≤ q + K2 ∧ i3 = .int .i64 K ∧ i5 = .int .i64 K2 ∧ Hid (l'.length = l.length) ∧ wr.ownsRow base 24 1 (.slice (some ⟨g, 0, none⟩) l.length cap) l.length (nu32 l') ∧ Below base w wr) (fun _ i _ => N2 - (intOf i).toNat)
          case atStart => exact ⟨q + 1, 1, l, by omega, by omega, by have := HN2.out; omega, by omega, by go_num, rfl, rfl, own_below OW.out (gr_drewN _ _), B.out.trans ((gr_drewN _ _).mono (by have := B1.out; omega))⟩
          case round =>
            obtain ⟨K, K2, l', hK, hK2, hK2n, hKK, rfl, rfl, hl', ho, hb⟩ := hrel
            have O2 := Lib.hid ho; have Bb := Lib.hid hb; clear ho hb
            have HKN := Lib.hid (show K < l.length by have := HN2.out; omega)
            by_cases hlt2 : K2 < N2
            · obtain ⟨p, rfl⟩ : ∃ p, K2 = p + 1 := ⟨K2 - 1, by omega⟩
              have HPN := Lib.hid (show q + 1 + (p + 1) < l.length by have := HN2.out; omega)
              obtain ⟨x2, hx2⟩ : ∃ x, l'[q + 1 + p]? = some x := ⟨_, List.getElem?_eq_getElem (by have := hl'.out; have := HPN.out; omega)⟩
              obtain ⟨y2, hy2⟩ : ∃ x, l'[q + 1 + (p + 1)]? = some x := ⟨_, List.getElem?_eq_getElem (by have := hl'.out; have := HPN.out; omega)⟩
              obtain ⟨z2, hz2⟩ : ∃ x, l'[K]? = some x := ⟨_, List.getElem?_eq_getElem (by have := hl'.out; have := HKN.out; omega)⟩
              have c0 : wr.cell? ⟨g, q + 1 + p, none⟩ = some (.int .u32 (uv x2)) := by rw [O2.out.cellAt (q + 1 + p) (by have := HPN.out; omega), nu32_get, hx2]; rfl
              have c1 : wr.cell? ⟨g, q + 1 + (p + 1), none⟩ = some (.int .u32 (uv y2)) := by rw [O2.out.cellAt (q + 1 + (p + 1)) (by have := HPN.out; omega), nu32_get, hy2]; rfl
              have cK : wr.cell? ⟨g, K, none⟩ = some (.int .u32 (uv z2)) := by rw [O2.out.cellAt K (by have := HKN.out; omega), nu32_get, hz2]; rfl
              have fK := O2.out.frozenAt K
              have e : ((p + 1 : Nat) : Int) = (p : Int) + 1 := by omega
              rw [e]; clear e
              have w1 : IntKind.i64.wrap ((p : Int) + 1 - 1) = (p : Int) := by unfold IntKind.wrap; simp [IntKind.bits, IntKind.signed]; omega
              have w2 : (p : Int) + 1 - 1 = (p : Int) := by omega
              have hKl : K < l.length := HKN.out
              obtain ⟨r, hr⟩ : ∃ r, (uv y2 != uv x2) = r := ⟨_, rfl⟩
              clear hx2 hy2 hz2
              cases r
              · go_wp2
                go_quiet (skip)
                go_wp2
                go_roundw
                case rel => exact ⟨K, p + 2, l', by omega, by omega, by omega, by omega, rfl, by go_num, hl', own_below O2.out (gr_drewN _ _), Bb.out.trans ((gr_drewN _ _).mono (by have := O2.out.lt g rfl; omega))⟩
                case measure => simp [intOf]; omega
              · go_wp2
                go_quiet (skip)
                go_wp2
                go_roundw
                case rel => exact ⟨K + 1, p + 2, l'.set K y2, by omega, by omega, by omega, by omega, by go_num, by go_num, Lib.hid (by rw [List.length_set]; exact hl'.out), by
                  have h3 := fun m => ((own_below O2.out (gr_drewN wr m)).stored K (.int .u32 (uv y2))).1
                  rw [show (nu32 l').set K (.int .u32 (uv y2)) = nu32 (l'.set K y2) by unfold nu32; rw [List.map_set]] at h3
                  exact h3 _, (Bb.out.trans ((gr_drewN _ _).mono (by have := O2.out.lt g rfl; omega))).setCell (p := ⟨g, K, none⟩) HG.out _⟩
                case measure => simp [intOf]; omega
            · obtain rfl : K2 = N2 := by omega
              have hKl : K < l.length := HKN.out
              have hrK := run_fromT 89 24 Tryd.underlying89 eszu32 g l.length cap K (by omega) HN.out (by have := HN.out; omega) HC.out
              have hrF := fun w' => run_slice_front (P := Tryd.prog) Tryd.underlying89 eszu32 (some ⟨g, 0, none⟩) l.length cap K (by have := HN.out; omega) w'
              obtain ⟨N3, hN3⟩ : ∃ N3, l.length - K = N3 := ⟨_, rfl⟩
              have hcl := fun ty => Lib.run_clear_slice (P := Tryd.prog) wr 89 24 ty (.int .u32 0) Tryd.underlying89 (fun w => by obtain ⟨i, h1, h2, -⟩ := ownu32.info; simp [zeroValue, typeInfo, h1, h2]) rfl rfl g K N3 (cap - K) (by omega) (fun j hj => by
                have := O2.out.cellAt (K + j) (by omega)
                rw [this, nu32_get, List.getElem?_eq_getElem (by have := hl'.out; omega)]; rfl) (fun j hj => O2.out.frozenAt (K + j))
              rw [hN3] at hrK
              have HN3 := Lib.hid hN3
              have HL := Lib.hid hl
              clear hN3
              go_wp2
              go_ret
              exact ⟨_, K, cap, rfl, fun h => absurd h ND.out, fun _ => HKN.out, by have := HL.out; have := HKN.out; omega, below_setCells Bb.out HG.out _ _⟩
      · obtain rfl : k = l.length := by omega
        have ND := Lib.hid (show NoDup l from fun t a b h3 h4 => hnd.out t a b (List.getElem?_eq_some_iff.1 h4).1 h3 h4)
        have HL := Lib.hid hl
        go_wp2
        go_ret
        exact ⟨_, l.length, cap, rfl, fun _ => rfl, fun h => absurd ND.out h, by have := HL.out; omega, B.out⟩
theorem rising_u32 (v : Value) (l : List (BitVec 32)) (r : Bool) (w : World) (hv : SliceV w (fun y : BitVec 32 => [Value.int .u32 (uv y)]) v l) (hl : l.length ≤ 1000000) (hr : r = true ↔ Strict l) :
    Calls Tryd.prog 125 #[v] w fun e w' => e = .returned (.bool r) ∧ Below w.heap.size w w' := by
  have V := Lib.hid hv
  obtain ⟨a, c, rfl, -, -, -, -⟩ := id hv
  have HL := Lib.hid hl
  have hm : l.length ≤ 9223372036854775807 := by omega
  rw [strict_iff] at hr
  have clone := fun W (hb : Below w.heap.size w W) => clone_u32 _ l W (V.out.below hb) HL.out
  have CL := Lib.hid clone
  clear clone hv
  by_cases hs : Srt l
  · have SO := Lib.hid (show ∀ W, Below w.heap.size w W → Calls Tryd.prog 157 #[.slice a l.length c] W fun e w' => e = .returned (.bool true) ∧ Below W.heap.size W w' from fun W hb => (sorted_u32 _ l W (V.out.below hb) HL.out).mono fun e w' ⟨b, he, hbb, hw⟩ => ⟨by rw [he, hbb.2 hs], hw⟩)
    by_cases hd : NoDup l
    · obtain rfl : r = true := hr.2 ⟨hs, hd⟩
      have CO := Lib.hid (show ∀ W u base, W.ownsRow base 24 1 u l.length (nu32 l) → Calls Tryd.prog 158 #[u] W fun e w' => ∃ a c, e = .returned (.slice a l.length c) ∧ Below base W w' from fun W u base ho => (compact_u32 u base l W ho HL.out).mono fun e w' ⟨a, m, c, he, h1, h2, h3, h4⟩ => ⟨a, c, by rw [he, h1 hd], h4⟩)
      clear hr hs hd
      go_enter Tryd.func125, Tryd.ntmps125
      go_wp2_with (first
        | (go_at_call 157; go_loud (refine (SO.out _ (Below.refl _ _)).mono ?_; rintro r w1 ⟨rfl, hw⟩; have B1 := Lib.hid hw; clear hw))
        | (go_at_call 159; go_loud (refine (CL.out _ B1.out).mono ?_; rintro r w2 ⟨u, rfl, ho, hw⟩; have O2 := Lib.hid ho; have B2 := Lib.hid (gr_tr B1.out hw); clear ho hw))
        | (go_at_call 158; go_loud (refine (CO.out _ _ _ O2.out).mono ?_; rintro r w3 ⟨a3, c3, rfl, hw⟩; have B3 := Lib.hid hw; clear hw)))
      go_ret
      exact ⟨by simp, B2.out.trans (B3.out.mono B1.out.size)⟩
    · obtain rfl : r = false := by cases r; rfl; exact absurd (hr.1 rfl).2 hd
      have CO := Lib.hid (show ∀ W u base, W.ownsRow base 24 1 u l.length (nu32 l) → Calls Tryd.prog 158 #[u] W fun e w' => ∃ a m c, e = .returned (.slice a m c) ∧ ((m : Int) == (l.length : Int)) = false ∧ Below base W w' from fun W u base ho => (compact_u32 u base l W ho HL.out).mono fun e w' ⟨a, m, c, he, h1, h2, h3, h4⟩ => ⟨a, m, c, he, by rw [beq_eq_false_iff_ne]; have := h2 hd; omega, h4⟩)
      clear hr hs hd
      go_enter Tryd.func125, Tryd.ntmps125
      go_wp2_with (first
        | (go_at_call 157; go_loud (refine (SO.out _ (Below.refl _ _)).mono ?_; rintro r w1 ⟨rfl, hw⟩; have B1 := Lib.hid hw; clear hw))
        | (go_at_call 159; go_loud (refine (CL.out _ B1.out).mono ?_; rintro r w2 ⟨u, rfl, ho, hw⟩; have O2 := Lib.hid ho; have B2 := Lib.hid (gr_tr B1.out hw); clear ho hw))
        | (go_at_call 158; go_loud (refine (CO.out _ _ _ O2.out).mono ?_; rintro r w3 ⟨a3, m3, c3, rfl, hne, hw⟩; have B3 := Lib.hid hw; clear hw)))
      go_ret
      exact ⟨by first | rfl | simp, B2.out.trans (B3.out.mono B1.out.size)⟩
  · obtain rfl : r = false := by cases r; rfl; exact absurd (hr.1 rfl).1 hs
    have SO := Lib.hid (show ∀ W, Below w.heap.size w W → Calls Tryd.prog 157 #[.slice a l.length c] W fun e w' => e = .returned (.bool false) ∧ Below W.heap.size W w' from fun W hb => (sorted_u32 _ l W (V.out.below hb) HL.out).mono fun e w' ⟨b, he, hbb, hw⟩ => ⟨by cases b; exact he; exact absurd (hbb.1 rfl) hs, hw⟩)
    clear hr hs
    go_enter Tryd.func125, Tryd.ntmps125
    go_wp2_with (go_at_call 157; go_loud (refine (SO.out _ (Below.refl _ _)).mono ?_; rintro r w1 ⟨rfl, hw⟩; have B1 := Lib.hid hw; clear hw))
    go_ret
    exact ⟨rfl, B1.out⟩
end Go.Proofs.YthnnopjakpjoeaaDoor
