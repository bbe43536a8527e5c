/- The walks of Go's slices at bytes: Clone, Reverse, Grow (of nothing), Concat. -/
import Derived.Test.YtpobkgkjfebhgaaBase
namespace Go.Proofs.Ytpobkgkjfebhgaa
open Go.RowKit
set_option linter.unusedVariables false
set_option linter.unusedSimpArgs false

theorem grown_tr {a b c : World} {row : Option Nat} (h : a.grownBy b row) (k : b.grownBy c row) : a.grownBy c row :=
  ⟨k.os.trans h.os, k.tape.trans h.tape, k.output.trans h.output, Nat.le_trans h.size k.size, fun i hi hn => (k.block i (Nat.lt_of_lt_of_le hi h.size) hn).trans (h.block i hi hn)⟩
theorem grown_drew (w : World) (row : Option Nat) : w.grownBy w.drew row := ⟨rfl, rfl, rfl, Nat.le_refl _, fun _ _ _ => rfl⟩
theorem own_nil_len {w : World} {base : Nat} {e : TypeId} {n : Nat} {xs : List Value} {a : Option Addr} {c : Nat} (h : w.ownsRow base e 1 (.slice a n c) n xs) (ha : a = none) : n = 0 := by
  obtain ⟨h1, h2⟩ := h
  rcases h2 with ⟨e1, e2⟩ | ⟨g, cap, cur, hv, _⟩
  · exact e2
  · subst ha; simp at hv
theorem Clone_any (v : Value) (l : List (BitVec 8)) (w : World) (hv : BytesV w v l) (hs : l.length ≤ 140737488355328) :
    Calls Try.prog 23 #[v] w fun e w' => ∃ u, e = .returned u ∧ w'.ownsRow w.heap.size 5 1 u l.length (by8 l) ∧ Below w.heap.size w w' := by
  obtain ⟨a, c, rfl, h0, h1, h2, h3⟩ := hv
  cases a with
  | none =>
    have hc := h0 rfl
    have hl : l = [] := List.length_eq_zero_iff.1 (by omega)
    subst hl
    have hq := fun (w : World) n c => Lib.run_eql_slice_nil (P := Try.prog) w 46 5 none n c 0 0 Try.underlying46
    go_enter Try.func23, Try.ntmps23
    go_wp2
    go_ret
    exact ⟨_, rfl, World.ownsRow_nil _ _ _ _, Below.refl _ _⟩
  | some ad =>
    have hq := fun (w : World) n c => Lib.run_eql_slice_nil (P := Try.prog) w 46 5 (some ad) n c 0 0 Try.underlying46
    go_enter Try.func23, Try.ntmps23
    go_wp2_with (at_builtin; refine app_law bytesOk rfl _ _ rfl w.heap.size (.slice (some ⟨w.heap.size, 0, none⟩) 0 0) 0 [] rfl (World.ownsRow_made w #[] 0 (Nat.le_refl _) (by decide) rfl) (some ad) l.length c (by8 l) rfl h0 h1 (h3.below (gr_alloc _ _)) (by simp) (by8_one l) (by omega) (by omega) (by simp) ?_; intro v' w1 hown hgrow _; simp only [Nat.zero_add, List.nil_append] at hown)
    go_ret
    exact ⟨_, rfl, hown, (gr_alloc w _).grown hgrow (by simp) (by intro k hk; simp [Value.ownBlock] at hk; omega)⟩
/-- k pairs have been exchanged. -/
def RevK (l m : List (BitVec 8)) (k : Nat) : Prop := m.length = l.length ∧ ∀ p, p < l.length → m[p]? = if p < k ∨ l.length ≤ p + k then l[l.length - 1 - p]? else l[p]?
theorem RevK.start (l : List (BitVec 8)) : RevK l l 0 := ⟨rfl, fun p hp => by simp; omega⟩
theorem RevK.done {l m : List (BitVec 8)} {k : Nat} (h : RevK l m k) (hk : l.length ≤ 2 * k + 1) : m = l.reverse := by
  apply List.ext_getElem?
  intro p
  by_cases hp : p < l.length
  · rw [h.2 p hp, List.getElem?_reverse hp]
    split
    · rfl
    · congr 1; omega
  · rw [List.getElem?_eq_none (by rw [h.1]; omega), List.getElem?_eq_none (by simp; omega)]
theorem RevK.step {l m : List (BitVec 8)} {k : Nat} {x y : BitVec 8} (h : RevK l m k) (hk : 2 * k + 1 < l.length) (hx : m[k]? = some x) (hy : m[l.length - 1 - k]? = some y) :
    RevK l ((m.set k y).set (l.length - 1 - k) x) (k + 1) := by
  refine ⟨by simp [h.1], fun p hp => ?_⟩
  have ex := h.2 k (by omega)
  have ey := h.2 (l.length - 1 - k) (by omega)
  rw [hx, if_neg (by omega)] at ex
  rw [hy, if_neg (by omega)] at ey
  by_cases e1 : p = l.length - 1 - k
  · subst e1
    rw [List.getElem?_set_self (by simp [h.1]; omega), if_pos (by omega), show l.length - 1 - (l.length - 1 - k) = k by omega, ex]
  · rw [List.getElem?_set_ne (by omega)]
    by_cases e2 : p = k
    · subst e2
      rw [List.getElem?_set_self (by rw [h.1]; omega), if_pos (by omega), ey]
    · rw [List.getElem?_set_ne (by omega), h.2 p hp]
      have : (p < k ∨ l.length ≤ p + k) ↔ (p < k + 1 ∨ l.length ≤ p + (k + 1)) := by omega
      simp only [this]
theorem by8_set (m : List (BitVec 8)) (k : Nat) (x : BitVec 8) : by8 (m.set k x) = (by8 m).set k (.int .u8 (uv x)) := by simp [by8, List.map_set]

set_option maxHeartbeats 400000 in
theorem Reverse_own (v : Value) (l : List (BitVec 8)) (base : Nat) (w : World) (hv : w.ownsRow base 5 1 v l.length (by8 l)) (hs : l.length ≤ 140737488355328) :
    Calls Try.prog 33 #[v] w fun e w' => e = .returned (.tuple #[]) ∧ w'.ownsRow base 5 1 v l.length (by8 l.reverse) ∧ w.grownBy w' v.ownBlock := by
  by_cases hl : l.length = 0
  · have hn : l = [] := List.length_eq_zero_iff.1 hl
    subst hn
    obtain ⟨a, c, rfl, _⟩ := BytesV.of_own hv
    have HV := Lib.hid hv; clear hv
    go_enter Try.func33, Try.ntmps33
    go_wp2
    refine wp_loop_rounds 1 ?_
    rw [rounds_succ]
    go_wp2
    go_end0
    exact ⟨rfl, HV.out, World.grownBy.refl _ _⟩
  · obtain ⟨a, c, rfl, h0, h1, h2, _⟩ := BytesV.of_own hv
    obtain ⟨g, rfl⟩ : ∃ g, a = some ⟨g, 0, none⟩ := by
      obtain ⟨e1, e2⟩ := hv
      rcases e2 with ⟨e3, e4⟩ | ⟨g, cap, cur, hv, _⟩
      · exact absurd e4 hl
      · simp at hv; exact ⟨g, hv.1⟩
    have HV := Lib.hid hv; clear hv
    have hpos : 0 < l.length := by omega
    go_enter Try.func33, Try.ntmps33
    go_wp2
    go_loopw [2, 3] (fun i j wr => ∃ (k : Nat) (m : List (BitVec 8)), 2 * k ≤ l.length ∧ i = .int .i64 k ∧ j = .int .i64 ((l.length : Int) - 1 - k) ∧ RevK l m k ∧ wr.ownsRow base 5 1 (.slice (some ⟨g, 0, none⟩) l.length c) l.length (by8 m) ∧ w.grownBy wr (some g)) (fun i _ _ => l.length - (intOf i).toNat)
    case atStart => exact ⟨0, l, by omega, rfl, by go_num, RevK.start l, HV.out, World.grownBy.refl _ _⟩
    case round =>
      obtain ⟨k, m, hk, rfl, rfl, hrev, hown, hgr⟩ := hrel
      have HR := Lib.hid hrev; clear hrev
      have HO := Lib.hid hown; clear hown
      have HG := Lib.hid hgr; clear hgr
      by_cases hlt : 2 * k + 1 < l.length
      · have hq := HR.out.1
        obtain ⟨x, hx⟩ : ∃ x, m[k]? = some x := ⟨_, List.getElem?_eq_getElem (by omega)⟩
        obtain ⟨y, hy⟩ : ∃ y, m[l.length - 1 - k]? = some y := ⟨_, List.getElem?_eq_getElem (by omega)⟩
        clear hq
        obtain ⟨q, hq⟩ : ∃ q, (l.length : Int) - 1 - k = (q : Nat) := ⟨l.length - 1 - k, by omega⟩
        have hqe : l.length - 1 - k = q := by omega
        rw [hqe] at hy
        have ST := Lib.hid (HR.out.step hlt hx (by rw [hqe]; exact hy))
        rw [hqe] at ST
        have c1 : wr.cell? ⟨g, k, none⟩ = some (.int .u8 (uv x)) := by rw [HO.out.cellAt k (by omega), by8_get, hx]; rfl
        have c2 : wr.cell? ⟨g, q, none⟩ = some (.int .u8 (uv y)) := by rw [HO.out.cellAt q (by omega), by8_get, hy]; rfl
        have f1 := HO.out.frozenAt k
        have f2 := HO.out.frozenAt q
        have hkq : k < q := by omega
        have hql : q < l.length := by omega
        rw [hq]
        have HQ := Lib.hid hq; clear hq
        have HQE := Lib.hid hqe; clear hqe
        clear hx hy
        go_wp2
        go_region
        all_goals (go_wp2; go_roundw)
        case rel =>
          have s1 := HO.out.stored k (.int .u8 (uv y))
          have s2 := s1.1.stored q (.int .u8 (uv x))
          exact ⟨k + 1, _, by omega, by go_num, by have := HQ.out; go_num, ST.out, by rw [by8_set, by8_set]; exact s2.1.drew, grown_tr HG.out (grown_tr s1.2 (grown_tr s2.2 (grown_drew _ _)))⟩
        case measure => simp [intOf]; omega
      · have hx := HR.out.done (by omega)
        subst hx
        have hge : (l.length : Int) - 1 - k ≤ k := by omega
        go_wp2
        go_end0
        exact ⟨rfl, HO.out, HG.out⟩
end Go.Proofs.Ytpobkgkjfebhgaa
