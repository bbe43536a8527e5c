/- The walks of package wire: a writer: add, Bytes. -/
import Derived.Test.YtabfmhlhdebcpaaGreatDoorWireB
import Derived.Great.BuildSlice
import Derived.Maps.AppendAt
namespace Go.Proofs.YtabfmhlhdebcpaaGreatDoor
open Go.RowKit
set_option linter.unusedVariables false
set_option linter.unusedSimpArgs false
theorem app_law_at {P : Program} {t e : TypeId} {z : Value} {size bytes : Nat} (E : ElemOk P t e z size bytes) {ops : Array Oper} {rest : List Oper} {o : Oper} {a : Act} {w : World} {Q : Exit → Act → World → Prop} (hgd : o.guard = none) (s x : Operand)
    (ho : o.op = .call { callee := .builtin .append, args := #[s, x], argTypes := #[t, t] }) (base : Nat) (v : Value) (n : Nat) (xs : List Value) (hs : a.eval s = v) (hown : w.ownsRow base e size v n xs)
    (ad : Option Addr) (m c : Nat) (news : List Value) (hx : a.eval x = .slice ad m c) (hnil : ad = none → c = 0) (hmc : m ≤ c) (hrow : Row w ad news) (hl : news.length = m * size) (h1 : ∀ u ∈ news, u.oneCell' = true)
    (h63 : n + m ≤ 9223372036854775807) (hbytes : (n + m) * bytes ≤ 140737488355328) (hbase : base ≤ w.heap.size)
    (h : ∀ v' w', w'.ownsRow base e size v' (n + m) (xs ++ news) → w.grownBy w' v.ownBlock → (v'.ownBlock = v.ownBlock ∨ v'.ownBlock = some w.heap.size) → wpList P ops Q rest (a.put o.dst v') w') : wpList P ops Q (o :: rest) a w := by
  obtain ⟨i, hi, hz0, hz1, hz2⟩ := E.info
  cases ad with
  | none =>
    have hc := hnil rfl
    subst hc
    obtain rfl : m = 0 := by omega
    have hn : news = [] := List.length_eq_zero_iff.1 (by rw [hl, Nat.zero_mul])
    subst hn
    refine wpList_append_own_none hgd s x t ho base e i size E.under hi v n xs hs hown hx (h v w (by simpa using hown) (World.grownBy.refl _ _) (.inl rfl))
  | some ad =>
    refine wpList_append_own_at w hgd s x t ho base e i z size bytes E.under hi hz0 hz1 hz2 E.cells E.pos v n xs hs hown ad m c news hx hl ?_ h1 h63 hbytes hbase fun v' w' a1 a2 _ a4 => h v' w' a1 a2 a4
    intro j u hj
    obtain ⟨b, o, e1, e2⟩ := hrow.at hj
    cases e1
    simpa [Addr.add] using (show w.cell? ((⟨b, o, none⟩ : Addr).add j) = some u by
      unfold Addr.add; split
      · rename_i h0; subst h0; simpa using e2
      · exact e2)
/-- 'append(own, x...)' at bytes, and where the new slice lies. -/
theorem app_at {ops : Array Oper} {rest : List Oper} {o : Oper} {a : Act} {Q : Exit → Act → World → Prop} {W : World} (hgd : o.guard = none) (s x : Operand) (ho : o.op = .call { callee := .builtin .append, args := #[s, x], argTypes := #[42, 42] })
    (u : Value) (base n : Nat) (k : List (BitVec 8)) (hs : a.eval s = u) (hown : W.ownsRow base 5 1 u n (by8 k)) (hbase : base ≤ W.heap.size)
    (v : Value) (l : List (BitVec 8)) (hx : a.eval x = v) (hv : BytesV W v l) (hl : n + l.length ≤ 140737488355328)
    (h : ∀ v' w', w'.ownsRow base 5 1 v' (n + l.length) (by8 (k ++ l)) → W.grownBy w' u.ownBlock → (v'.ownBlock = u.ownBlock ∨ v'.ownBlock = some W.heap.size) → wpList Tryz.prog ops Q rest (a.put o.dst v') w') : wpList Tryz.prog ops Q (o :: rest) a W := by
  obtain ⟨av, cv, rfl, n1, n2, n3, n4⟩ := hv
  refine app_law_at bytesOk hgd s x ho base _ n (by8 k) hs hown av l.length cv (by8 l) hx n1 n2 n4 (by simp) (by8_one l) (by omega) (by omega) hbase ?_
  intro v' w' ho' hg' ha'
  rw [← by8_append] at ho'
  exact h v' w' ho' hg' ha'
/-- A writer lies in block p; it owns its bytes l. -/
structure WrAt (w : World) (base p : Nat) (v : Value) (l : List (BitVec 8)) : Prop where
  blk : w.heap[p]? = some (.cells #[v] 83 (0, 0))
  own : w.ownsRow base 5 1 v l.length (by8 l)
  len : l.length ≤ 1048576
/-- The blocks that a writer may change. -/
def WrB (p : Nat) (v : Value) : Nat → Prop := fun k => k = p ∨ v.ownBlock = some k
theorem own_shape {w : World} {base : Nat} {e : TypeId} {size : Nat} {v : Value} {n : Nat} {xs : List Value} (h : w.ownsRow base e size v n xs) : ∃ a c, v = .slice a n c := by
  obtain ⟨h1, h2⟩ := h
  rcases h2 with ⟨rfl, rfl⟩ | ⟨g, cap, cur, hv, _⟩
  · exact ⟨_, _, rfl⟩
  · exact ⟨_, _, hv⟩
theorem WrAt.ne {w : World} {base p : Nat} {v : Value} {l : List (BitVec 8)} (h : WrAt w base p v l) : v.ownBlock ≠ some p := by
  intro e
  obtain ⟨h1, h2⟩ := h.own
  rcases h2 with ⟨rfl, _⟩ | ⟨g, cap, cur, rfl, hg, hh, _⟩
  · simp [Value.ownBlock] at e
  · simp [Value.ownBlock] at e
    subst e
    rw [h.blk] at hh
    simp at hh
theorem WrAt.chg {B : Nat → Prop} {w w' : World} {base p : Nat} {v : Value} {l : List (BitVec 8)} (h : WrAt w base p v l) (c : Chg B w w') (hp : ¬ B p) (hv : ∀ g, v.ownBlock = some g → ¬ B g) : WrAt w' base p v l :=
  ⟨c.blk h.blk hp, own_chg h.own c hv, h.len⟩
theorem WrAt.below {w w' : World} {base p : Nat} {v : Value} {l : List (BitVec 8)} (h : WrAt w base p v l) (c : Below w.heap.size w w') : WrAt w' base p v l :=
  h.chg (B := fun _ => False) (Chg.of_below c) id (fun _ _ => id)
def addE (l b : List (BitVec 8)) (e : Int) : Int := if e ≠ 0 then e else if (b.length : Int) > 1048576 - l.length then 5 else 0
def addL (l b : List (BitVec 8)) (e : Int) : List (BitVec 8) := if addE l b e = 0 then l ++ b else l
set_option maxHeartbeats 800000 in
theorem add_any (base p : Nat) (v : Value) (l : List (BitVec 8)) (u : Value) (b : List (BitVec 8)) (e : Int) (w : World) (hw : WrAt w base p v l) (hu : BytesV w u b) (hb : base ≤ w.heap.size) (hs : b.length ≤ 1000000000) :
    Calls Tryz.prog 58 #[.pointer (some ⟨p, 0, none⟩), u, .int .i64 e] w fun x w' => x = .returned (.int .i64 (addE l b e)) ∧ (∃ v', WrAt w' base p v' (addL l b e) ∧ (v'.ownBlock = v.ownBlock ∨ v'.ownBlock = some w.heap.size)) ∧ Chg (WrB p v) w w' := by
  have WR := Lib.hid hw
  have U := Lib.hid hu; clear hu
  have hl := hw.len
  have d0 : w.cell? ⟨p, 0, none⟩ = some v := (cell_of_row _ _ 0 _ _ _ hw.blk).trans rfl
  clear hw
  obtain ⟨av, cv, rfl⟩ := own_shape WR.out.own
  obtain ⟨au, cu, rfl, -⟩ := id U.out
  by_cases he : e = 0
  · subst he
    by_cases hlt : (b.length : Int) > 1048576 - l.length
    · have hd : decide ((b.length : Int) > 1048576 - (l.length : Int)) = true := by simpa using hlt
      have hfin : addE l b 0 = 5 := by unfold addE; rw [if_neg (by simp), if_pos hlt]
      have hl2 : addL l b 0 = l := by unfold addL; rw [hfin]; rfl
      rw [hfin, hl2]
      clear hfin hl2 hlt
      go_enter Tryz.func58, Tryz.ntmps58
      go_wp2
      go_ret
      exact ⟨rfl, ⟨_, WR.out, .inl rfl⟩, Chg.refl _ _⟩
    · have hd : decide ((b.length : Int) > 1048576 - (l.length : Int)) = false := by simpa using hlt
      have hfin : addE l b 0 = 0 := by unfold addE; rw [if_neg (by simp), if_neg hlt]
      have hl2 : addL l b 0 = l ++ b := by unfold addL; rw [hfin]; rfl
      rw [hfin, hl2]
      have hsum : (l ++ b).length ≤ 1048576 := by rw [List.length_append]; omega
      have HSUM := Lib.hid hsum; clear hsum
      have hsz : l.length + b.length ≤ 140737488355328 := by omega
      have HSZ := Lib.hid hsz; clear hsz
      clear hfin hl2 hlt
      go_enter Tryz.func58, Tryz.ntmps58
      go_wp2_with (first
        | (at_builtin; refine app_at rfl (.tmp 28) (.tmp 29) rfl _ base l.length l rfl WR.out.own hb _ b rfl U.out HSZ.out ?_; intro v' w1 hown hgr hat; have AT := Lib.hid hat; clear hat; have O1 := Lib.hid hown; have G1 := Lib.hid hgr; have hblk := (Chg.of_grown (B := fun k => (Value.slice av l.length cv).ownBlock = some k) hgr (fun k hk => hk)).blk WR.out.blk WR.out.ne; have P1 := Lib.hid hblk; clear hown hgr hblk; obtain ⟨a1, c1, rfl⟩ := own_shape O1.out)
        | (refine wpList_store_one rfl 42 (.tmp 32) (.tmp 30) rfl p rfl rfl 83 _ P1.out (by kernel_rfl) ?_))
      go_ret
      have hne : ∀ g, (Value.slice a1 (l.length + b.length) c1).ownBlock = some g → ¬ (g = p) := by
        intro g hg hgp
        subst hgp
        obtain ⟨h1, h2⟩ := O1.out
        rcases h2 with ⟨e1, _⟩ | ⟨g', cap, cur, e1, hg', hh, _⟩
        · rw [e1] at hg; simp [Value.ownBlock] at hg
        · rw [e1] at hg; simp [Value.ownBlock] at hg; subst hg; have := P1.out; rw [hh] at this; simp at this
      refine ⟨rfl, ⟨_, ⟨setRow_heap _ _ _ _ _ _ P1.out, ?_, HSUM.out⟩, ?_⟩, ?_⟩
      · rw [List.length_append]
        exact own_chg O1.out (Chg.setRow (B := fun k => k = p) w1 rfl _) hne
      · exact AT.out
      · exact (Chg.of_grown (B := WrB p (.slice av l.length cv)) G1.out (fun k hk => .inr hk)).trans (Chg.setRow _ (.inl rfl) _)
  · have hq : (e != 0) = true := by simpa using he
    have hfin : addE l b e = e := by unfold addE; rw [if_pos he]
    have hl2 : addL l b e = l := by unfold addL; rw [hfin, if_neg he]
    rw [hfin, hl2]
    clear hfin hl2 he
    go_enter Tryz.func58, Tryz.ntmps58
    go_wp2
    go_ret
    exact ⟨rfl, ⟨_, WR.out, .inl rfl⟩, Chg.refl _ _⟩
end Go.Proofs.YtabfmhlhdebcpaaGreatDoor
