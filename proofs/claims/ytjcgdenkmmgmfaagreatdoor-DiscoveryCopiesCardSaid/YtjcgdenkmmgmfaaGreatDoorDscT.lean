/- Discovery: Decode: the state of its loop. Printed by gendsct.py. -/
import Derived.Test.YtjcgdenkmmgmfaaGreatDoorDscS
import Derived.Test.YtjcgdenkmmgmfaaGreatDoorDscR
import Derived.Test.YtjcgdenkmmgmfaaGreatDoorAppAt
import Derived.Maps.OwnIn
namespace Go.Proofs.YtjcgdenkmmgmfaaGreatDoor
open Go.RowKit Go.Shelf Dsc
set_option linter.unusedVariables false
set_option linter.unusedSimpArgs false
attribute [local go_sem] Oper.semAt_some
theorem wpListIn_load_row {F : Fence} {n : Nat} {P : Program} {ops : Array Oper} {rest : List Oper} {o : Oper} {a : Act} {w : World} {Q : Exit → Act → World → Prop} (hgd : o.guard = none) (ty : TypeId) (x : Operand) (ho : o.op = .load ty x)
    (g : Nat) (hx : a.eval x = .pointer (some ⟨g, 0, none⟩)) (t : TypeId) (cs : Array Value) (fr : Nat × Nat) (d : TypeDesc) (hg : w.heap[g]? = some (.cells cs t fr))
    (hu : P.underlying ty = some d) (hd : (match d with | .struct _ | .array _ _ => true | _ => false) = true) (hi : (P.info? ty).map (·.size) = some cs.size)
    (h : wpListIn F n P ops Q rest (a.put o.dst (.agg cs)) w) : wpListIn F n P ops Q (o :: rest) a w := by
  refine wpListIn_plain hgd fun K hK => ?_
  unfold Oper.wpIn
  refine ⟨by simp [Oper.about, ho], ?_⟩
  rw [Oper.semAt_plain F _ _ (by rw [ho]; intro c hc; cases hc)]
  unfold execOp
  simp only [ho, hx, Instr.loadAt, Instr.sureAddr, Sem.run_bind, Sem.run_pure, Result.andThen_ok, run_loadVar_row w g t ty cs fr d hg hu hd hi]
  exact hK _ _ h
theorem wpListIn_store_row {F : Fence} {n : Nat} {P : Program} {ops : Array Oper} {rest : List Oper} {o : Oper} {a : Act} {w : World} {Q : Exit → Act → World → Prop} (hgd : o.guard = none) (ty : TypeId) (x y : Operand) (ho : o.op = .store ty x y)
    (g : Nat) (cells : Array Value) (hx : a.eval x = .pointer (some ⟨g, 0, none⟩)) (hy : a.eval y = .agg cells)
    (t : TypeId) (old : Array Value) (hg : w.heap[g]? = some (.cells old t (0, 0))) (hi : (P.info? ty).map (·.size) = some cells.size)
    (hold : old.size = cells.size) (h1 : cells.all (·.oneCell') = true)
    (h : wpListIn F n P ops Q rest (a.put o.dst undef) (w.setRow g cells)) : wpListIn F n P ops Q (o :: rest) a w := by
  refine wpListIn_plain hgd fun K hK => ?_
  unfold Oper.wpIn
  refine ⟨by simp [Oper.about, ho], ?_⟩
  rw [Oper.semAt_plain F _ _ (by rw [ho]; intro c hc; cases hc)]
  unfold execOp
  simp only [ho, hx, hy, Instr.storeAt, Instr.sureAddr, Sem.run_bind, Sem.run_pure, Result.andThen_ok, run_storeVar_row w g t ty old cells hg hi hold h1]
  exact hK _ _ h
theorem wpListIn_store_new {F : Fence} {n : Nat} {P : Program} {ops : Array Oper} {rest : List Oper} {o : Oper} {a : Act} {W : World} {Q : Exit → Act → World → Prop} (hgd : o.guard = none) (ty : TypeId) (x y : Operand) (ho : o.op = .store ty x y)
    (cells : Array Value) (t : TypeId) (old : Array Value) (hx : a.eval x = .pointer (some ⟨W.heap.size, 0, none⟩)) (hy : a.eval y = .agg cells)
    (hi : (P.info? ty).map (·.size) = some cells.size) (hold : old.size = cells.size) (h1 : cells.all (·.oneCell') = true)
    (h : ∀ w', w'.heap[W.heap.size]? = some (.cells cells t (0, 0)) → Below W.heap.size W w' → wpListIn F n P ops Q rest (a.put o.dst undef) w') : wpListIn F n P ops Q (o :: rest) a (W.alloc (.cells old t)) :=
  wpListIn_store_row hgd ty x y ho W.heap.size cells hx hy t old (heap_alloc_new _ _) hi hold h1 (h _ (setRow_heap _ _ _ _ _ _ (heap_alloc_new _ _)) (below_setRow (gr_alloc _ _) (Nat.le_refl _) _))
/-- 'append(own, x...)' in a round. -/
theorem app_law_in {F : Fence} {nF : Nat} {P : Program} {t e : TypeId} {z : Value} {size bytes : Nat} (E : ElemOk P t e z size bytes) {ops : Array Oper} {rest : List Oper} {o : Oper} {a : Act} {w : World} {Q : Exit → Act → World → Prop} (hgd : o.guard = none) (s x : Operand)
    (ho : o.op = .call { callee := .builtin .append, args := #[s, x], argTypes := #[t, t] }) (base : Nat) (v : Value) (n : Nat) (xs : List Value) (hs : a.eval s = v) (hown : w.ownsRow base e size v n xs)
    (ad : Addr) (m c : Nat) (news : List Value) (hx : a.eval x = .slice (some ad) m c) (hrow : Row w (some ad) news) (hl : news.length = m * size) (h1 : ∀ u ∈ news, u.oneCell' = true)
    (h63 : n + m ≤ 9223372036854775807) (hbytes : (n + m) * bytes ≤ 140737488355328) (hbase : base ≤ w.heap.size)
    (h : ∀ v' w', w'.ownsRow base e size v' (n + m) (xs ++ news) → w.grownBy w' v.ownBlock → (v'.ownBlock = v.ownBlock ∨ v'.ownBlock = some w.heap.size) → wpListIn F nF P ops Q rest (a.put o.dst v') w') : wpListIn F nF P ops Q (o :: rest) a w := by
  obtain ⟨i, hi, hz0, hz1, hz2⟩ := E.info
  refine wpListIn_append_own_at w hgd s x t ho base e i z size bytes E.under hi hz0 hz1 hz2 E.cells E.pos v n xs hs hown ad m c news hx hl ?_ h1 h63 hbytes hbase fun v' w' a1 a2 _ a4 => h v' w' a1 a2 a4
  intro j u hj
  obtain ⟨b, o, e1, e2⟩ := hrow.at hj
  cases e1
  simpa [Addr.add] using (show w.cell? ((⟨b, o, none⟩ : Addr).add j) = some u by
    unfold Addr.add; split
    · rename_i h0; subst h0; simpa using e2
    · exact e2)
/-- Own rows are blocks of cells. -/
theorem own_cells {w : World} {b1 : Nat} {e1 : TypeId} {s1 n1 : Nat} {v1 : Value} {x1 : List Value} (h : w.ownsRow b1 e1 s1 v1 n1 x1) {k : Nat} (hk : v1.ownBlock = some k) : ∃ o, w.heap[k]? = some o ∧ o.isCells = true := by
  obtain ⟨-, h⟩ := h
  rcases h with ⟨rfl, _⟩ | ⟨g, c, cur, rfl, _, hh, _⟩
  · cases hk
  · cases hk; exact ⟨_, hh, rfl⟩
theorem ko_grown {W W' : World} {row : Option Nat} (h : W.grownBy W' row) (hr : ∀ k, row = some k → ∃ o, W.heap[k]? = some o ∧ o.isCells = true) : KeepsOthers W W' :=
  ⟨h.size, fun k o hk ho => (h.block k (Array.getElem?_eq_some_iff.1 hk).1 (fun e => by
    obtain ⟨o2, h1, h2⟩ := hr k e.symm
    rw [h1] at hk; cases hk; rw [h2] at ho; cases ho)).trans hk⟩
namespace Dsc
structure DecSt (w0 : World) (g : BitVec 64) (Bl B1 : Nat) (u : Value) (rs : List Rec) (lv : Value) (W : World) : Prop where
  x : W.heap[w0.heap.size]? = some (.cells #[.int .u64 0, .slice none 0 0] 60 (0, 0))
  y : W.heap[w0.heap.size + 1]? = some (.cells #[.int .i64 0] 42 (0, 0))
  l : W.heap[Bl]? = some (.cells #[.int .u64 (uv g), lv] 60 (0, 0))
  own : W.ownsRow (w0.heap.size + 2) 37 10 lv rs.length (rs.flatMap Rec.cells)
  b1 : W.heap[B1]? = some (.cells #[u] 45 (0, 0))
  b2 : W.heap[B1 + 1]? = some (.cells #[.int .i64 1024] 3 (0, 0))
  lo : w0.heap.size + 2 ≤ Bl
  hi : Bl < B1
  bel : Below w0.heap.size w0 W
theorem DecSt.chg {w0 : World} {g : BitVec 64} {Bl B1 : Nat} {u lv : Value} {rs : List Rec} {W W2 : World} {C : Nat → Prop} (h : DecSt w0 g Bl B1 u rs lv W) (hc : Chg C W W2) (hC : ∀ k, C k → w0.heap.size + 2 ≤ k ∧ k ≠ Bl ∧ k ≠ B1 ∧ k ≠ B1 + 1 ∧ lv.ownBlock ≠ some k) : DecSt w0 g Bl B1 u rs lv W2 := by
  have hl := h.lo; have hh := h.hi
  refine ⟨hc.blk h.x (fun e => ?_), hc.blk h.y (fun e => ?_), hc.blk h.l (fun e => ?_), own_chg h.own hc (fun k hk e => (hC k e).2.2.2.2 hk), hc.blk h.b1 (fun e => ?_), hc.blk h.b2 (fun e => ?_), hl, hh, h.bel.trans (hc.below (fun k hk => by have := (hC k hk).1; omega) h.bel.size)⟩
  · have := (hC _ e).1; omega
  · have := (hC _ e).1; omega
  · exact (hC _ e).2.1 rfl
  · exact (hC _ e).2.2.1 rfl
  · exact (hC _ e).2.2.2.1 rfl
theorem DecSt.below {w0 : World} {g : BitVec 64} {Bl B1 : Nat} {u lv : Value} {rs : List Rec} {W W2 : World} (h : DecSt w0 g Bl B1 u rs lv W) (hb : Below W.heap.size W W2) : DecSt w0 g Bl B1 u rs lv W2 :=
  h.chg (Chg.of_below (B := fun _ => False) hb) (fun k hk => hk.elim)
theorem DecSt.grown {w0 : World} {g : BitVec 64} {Bl B1 : Nat} {u lv : Value} {rs : List Rec} {W W2 : World} {row : Option Nat} {B : Nat} (h : DecSt w0 g Bl B1 u rs lv W) (hg : W.grownBy W2 row) (hB : B1 + 1 < B) (hr : ∀ r, row = some r → B ≤ r ∧ ∃ o : Obj, W.heap[r]? = some o ∧ o.isCells = false) : DecSt w0 g Bl B1 u rs lv W2 := by
  have hl := h.lo; have hh := h.hi
  refine h.chg (Chg.of_grown (B := fun k => row = some k) hg (fun k hk => hk)) (fun k hk => ?_)
  obtain ⟨h1, o, h2, h3⟩ := hr k hk
  refine ⟨by omega, by omega, by omega, by omega, fun e => ?_⟩
  obtain ⟨o2, e1, e2⟩ := own_cells h.own e
  rw [h2] at e1; cases e1; rw [e2] at h3; cases h3
/-- What a round may change. -/
def DecB (Bl : Nat) (lv : Value) (k : Nat) : Prop := k = Bl ∨ lv.ownBlock = some k
theorem DecSt.more {w0 : World} {g : BitVec 64} {Bl B1 : Nat} {u lv lv' : Value} {rs : List Rec} {r : Rec} {W w3 w' : World} (h : DecSt w0 g Bl B1 u rs lv W)
    (hown : w3.ownsRow (w0.heap.size + 2) 37 10 lv' (rs.length + 1) (rs.flatMap Rec.cells ++ r.cells)) (hg : W.grownBy w3 lv.ownBlock) (hw' : w' = w3.setCell ⟨Bl, 1, none⟩ lv') :
    DecSt w0 g Bl B1 u (rs ++ [r]) lv' w' ∧ KeepsOthers W w' ∧ ChKp B1 (B1 + 1) W w' := by
  have hl := h.lo; have hh := h.hi
  have hbl3 : w3.heap[Bl]? = some (.cells #[.int .u64 (uv g), lv] 60 (0, 0)) := (hg.block Bl (Array.getElem?_eq_some_iff.1 h.l).1 (fun e => own_apartB h.own h.l (by decide) e.symm)).trans h.l
  have hcc : Chg (fun k => k = Bl) w3 w' := by rw [hw']; exact Chg.setCell (B := fun k => k = Bl) (p := ⟨Bl, 1, none⟩) _ rfl _
  have hc : Chg (DecB Bl lv) W w' := (Chg.of_grown hg (fun k hk => .inr hk)).trans (hcc.mono (fun k hk => .inl hk))
  have nB : ∀ k, DecB Bl lv k → w0.heap.size + 2 ≤ k ∧ k ≠ B1 ∧ k ≠ B1 + 1 := by
    rintro k (rfl | hk)
    · exact ⟨hl, by omega, by omega⟩
    · exact ⟨(h.own.lt k hk).1, fun e => by subst e; exact own_apartB h.own h.b1 (by decide) hk, fun e => by subst e; exact own_apartB h.own h.b2 (by decide) hk⟩
  have k1 := hc.blk h.b1 (fun e => (nB _ e).2.1 rfl)
  have k2 := hc.blk h.b2 (fun e => (nB _ e).2.2 rfl)
  refine ⟨⟨hc.blk h.x (fun e => by have := (nB _ e).1; omega), hc.blk h.y (fun e => by have := (nB _ e).1; omega), by rw [hw']; exact heap_setCell_same _ _ _ _ _ _ hbl3, ?_, k1, k2, hl, hh, h.bel.trans (hc.below (fun k hk => by have := (nB k hk).1; omega) h.bel.size)⟩, ?_, k1.trans h.b1.symm, k2.trans h.b2.symm⟩
  · rw [List.flatMap_append, List.length_append]
    have e : [r].flatMap Rec.cells = r.cells := by simp
    rw [e]
    refine own_chg hown hcc (fun k hk e2 => ?_)
    have e3 : k = Bl := e2
    subst e3
    exact own_apartB hown hbl3 (by decide) hk
  · refine ko_chg hc (fun k hk o ho => ?_)
    rcases hk with rfl | hk
    · rw [h.l] at ho; cases ho; rfl
    · obtain ⟨o2, e1, e2⟩ := own_cells h.own hk
      rw [e1] at ho; cases ho; exact e2
end Dsc
end Go.Proofs.YtjcgdenkmmgmfaaGreatDoor
