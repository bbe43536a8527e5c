/- What a slice in memory holds, in words of this proof: rows of cells, bytes, slices of bytes. Plain laws on worlds. -/
import Derived.Test.YtabfmhlhdebcpaaGreatDoorNum
import Derived.Lib.Hide
import Derived.Laws.CopyOwn
import Derived.Laws.AppendOwnNone
import Derived.Deep.Draws
namespace Go.Proofs.YtabfmhlhdebcpaaGreatDoor
open Go.RowKit
set_option linter.unusedVariables false
set_option linter.unusedSimpArgs false

/-! 'Below w.heap.size w w'': nothing that was there has changed: an order between worlds -/
theorem gr_tr {a b c : World} (h : Below a.heap.size a b) (k : Below b.heap.size b c) : Below a.heap.size a c := h.trans (k.mono h.size)
theorem gr_alloc (w : World) (o : Obj) : Below w.heap.size w (w.alloc o) := (Below.refl _ _).alloc (Nat.le_refl _) _
theorem gr_drewN (w : World) (n : Nat) : Below w.heap.size w (w.drewN n) := ⟨rfl, rfl, rfl, Nat.le_refl _, fun _ _ => rfl⟩
theorem gr_drew (w : World) : Below w.heap.size w w.drew := (Below.refl _ _).drew

/-- From address a on the cells hold vs. -/
def Row (w : World) (a : Option Addr) (vs : List Value) : Prop :=
  vs = [] ∨ ∃ b o, a = some ⟨b, o, none⟩ ∧ ∀ i, i < vs.length → w.cell? ⟨b, o + i, none⟩ = vs[i]?

theorem Row.nil (w : World) (a : Option Addr) : Row w a [] := .inl rfl
theorem Row.lt {w : World} {b o : Nat} {s : Option Nat} {vs : List Value} (h : Row w (some ⟨b, o, s⟩) vs) (hne : vs ≠ []) : b < w.heap.size := by
  rcases h with h | ⟨b', o', e, h⟩
  · exact absurd h hne
  · cases e
    have h0 : 0 < vs.length := List.length_pos_iff.2 hne
    have := h 0 h0
    rw [List.getElem?_eq_getElem h0] at this
    simp only [World.cell?] at this
    rcases Nat.lt_or_ge b w.heap.size with h | h
    · exact h
    · rw [Array.getElem?_eq_none h] at this; simp at this
theorem Row.below {w w' : World} {a : Option Addr} {vs : List Value} (h : Row w a vs) (hb : Below w.heap.size w w') : Row w' a vs := by
  rcases h with h | ⟨b, o, rfl, h⟩
  · exact .inl h
  · by_cases hne : vs = []
    · exact .inl hne
    · have hlt := Row.lt (.inr ⟨b, o, rfl, h⟩) hne
      exact .inr ⟨b, o, rfl, fun i hi => by rw [hb.cell hlt]; exact h i hi⟩
theorem Row.at {w : World} {a : Option Addr} {vs : List Value} (h : Row w a vs) {i : Nat} {v : Value} (hi : vs[i]? = some v) :
    ∃ b o, a = some ⟨b, o, none⟩ ∧ w.cell? ⟨b, o + i, none⟩ = some v := by
  have hl : i < vs.length := (List.getElem?_eq_some_iff.1 hi).1
  rcases h with h | ⟨b, o, rfl, h⟩
  · subst h; simp at hl
  · exact ⟨b, o, rfl, by rw [h i hl, hi]⟩
theorem Row.take {w : World} {a : Option Addr} {vs : List Value} (h : Row w a vs) (n : Nat) : Row w a (vs.take n) := by
  rcases h with h | ⟨b, o, rfl, h⟩
  · subst h; simp [Row]
  · refine .inr ⟨b, o, rfl, fun i hi => ?_⟩
    rw [List.length_take] at hi
    rw [h i (by omega), List.getElem?_take_of_lt (by omega)]
theorem Row.drop {w : World} {b o : Nat} {vs : List Value} (h : Row w (some ⟨b, o, none⟩) vs) (n : Nat) : Row w (some ⟨b, o + n, none⟩) (vs.drop n) := by
  rcases h with h | ⟨b', o', e, h⟩
  · subst h; simp [Row]
  · cases e
    refine .inr ⟨b, o + n, rfl, fun i hi => ?_⟩
    simp at hi
    rw [Nat.add_assoc, h (n + i) (by omega), List.getElem?_drop]

theorem Row.lit (w : World) (cs : Array Value) (t : TypeId) (fr : Nat × Nat) : Row (w.alloc (.cells cs t fr)) (some ⟨w.heap.size, 0, none⟩) cs.toList := by
  refine .inr ⟨_, 0, rfl, fun i hi => ?_⟩
  rw [cell_of_row _ _ _ _ _ _ (heap_alloc_new w (.cells cs t fr))]; simp
/-- Bytes as values. -/
def by8 (l : List (BitVec 8)) : List Value := l.map fun x => .int .u8 (uv x)
@[simp] theorem by8_length (l : List (BitVec 8)) : (by8 l).length = l.length := by simp [by8]
theorem by8_get (l : List (BitVec 8)) (i : Nat) : (by8 l)[i]? = l[i]?.map fun x => .int .u8 (uv x) := by simp [by8]
theorem by8_append (a b : List (BitVec 8)) : by8 (a ++ b) = by8 a ++ by8 b := by simp [by8]

/-- v is a slice of bytes that holds l. -/
def BytesV (w : World) (v : Value) (l : List (BitVec 8)) : Prop :=
  ∃ a c, v = .slice a l.length c ∧ (a = none → c = 0) ∧ l.length ≤ c ∧ c ≤ 9223372036854775807 ∧ Row w a (by8 l)
theorem BytesV.below {w w' : World} {v : Value} {l : List (BitVec 8)} (h : BytesV w v l) (hb : Below w.heap.size w w') : BytesV w' v l := by
  obtain ⟨a, c, e, h0, h1, h2, h3⟩ := h
  exact ⟨a, c, e, h0, h1, h2, h3.below hb⟩
theorem BytesV.nil (w : World) : BytesV w (.slice none 0 0) [] := ⟨none, 0, rfl, fun _ => rfl, by simp, by simp, .inl rfl⟩
theorem by8_one (l : List (BitVec 8)) : ∀ u ∈ by8 l, u.oneCell' = true := by
  intro u hu
  obtain ⟨x, _, rfl⟩ := List.mem_map.1 hu
  rfl

/-- An owned row reads as what it owns. -/
theorem Row.of_own {w : World} {base : Nat} {e : TypeId} {size : Nat} {a : Option Addr} {n c : Nat} {xs : List Value} (h : w.ownsRow base e size (.slice a n c) n xs) : Row w a xs := by
  obtain ⟨h1, h2⟩ := h
  rcases h2 with ⟨e1, e2⟩ | ⟨g, cap, cur, hv, hg, hh, r1, r2, r3, r4⟩
  · cases e1; rw [Nat.zero_mul] at h1; exact .inl (List.length_eq_zero_iff.1 h1)
  · cases hv
    refine .inr ⟨g, 0, rfl, fun i hi => ?_⟩
    rw [cell_of_row w g (0 + i) cur e (0, 0) hh, Nat.zero_add, ← r4, List.getElem?_take_of_lt (by rw [← h1]; exact hi)]
    simp
theorem BytesV.of_own {w : World} {base : Nat} {e : TypeId} {v : Value} {l : List (BitVec 8)} (h : w.ownsRow base e 1 v l.length (by8 l)) : BytesV w v l := by
  obtain ⟨h1, h2⟩ := h
  rcases h2 with ⟨e1, e2⟩ | ⟨g, cap, cur, hv, hg, hh, r1, r2, r3, r4⟩
  · have : l = [] := List.length_eq_zero_iff.1 e2
    subst this; subst e1; exact BytesV.nil w
  · subst hv
    exact ⟨_, cap, rfl, (by simp), r1, r2, Row.of_own ⟨h1, .inr ⟨g, cap, cur, rfl, hg, hh, r1, r2, r3, r4⟩⟩⟩

/-! append onto a slice that the call owns -/
structure ElemOk (P : Program) (t e : TypeId) (z : Value) (size bytes : Nat) : Prop where
  under : P.underlying t = some (.slice e)
  info : ∃ i, P.info? e = some i ∧ i.zero = some z ∧ i.size = size ∧ i.bytes = bytes
  cells : z.cells.size = size
  pos : 0 < size
theorem make_law {P : Program} {t e : TypeId} {z : Value} {size bytes : Nat} (E : ElemOk P t e z size bytes) {ops : Array Oper} {rest : List Oper} {o : Oper} {a : Act} {w : World} {Q : Exit → Act → World → Prop} (hgd : o.guard = none) (l c : Operand)
    (ho : o.op = Op.makeSlice t l c) (base : Nat) (kl kc : IntKind) (L C : Int) (n : Nat) (hl : a.eval l = .int kl L) (hc : a.eval c = .int kc C) (hL : L = (n : Int)) (hC : C = (n : Int)) (hb : bytes * n ≤ 281474976710656) (hn : n ≤ 9223372036854775807) (hbase : base ≤ w.heap.size)
    (h : ∀ w', w'.ownsRow base e size (.slice (some ⟨w.heap.size, 0, none⟩) n n) n (madeCells z.cells (n * size)).toList → w.grownBy w' none → wpList P ops Q rest (a.put o.dst (.slice (some ⟨w.heap.size, 0, none⟩) n n)) w') : wpList P ops Q (o :: rest) a w := by
  obtain ⟨i, hi, hz0, hz1, hz2⟩ := E.info
  exact wpList_make_full w hgd l c t ho base e i z size E.under hi hz0 hz1 kl kc L C n hl hc hL hC (by rw [hz2]; exact hb) hn hbase h
theorem by8_made (n : Nat) : (madeCells (Value.int .u8 0).cells (n * 1)).toList = by8 (List.replicate n 0#8) := by
  rw [Nat.mul_one]
  have := toList_madeCells_one (.int .u8 0) n
  simp only [Value.cells]
  rw [this]; simp [by8]; exact Or.inr rfl
/-- What is done, then zeros: a row of bytes that is filled from its head. -/
def partB (l : List (BitVec 8)) (k : Nat) : List (BitVec 8) := l.take k ++ List.replicate (l.length - k) 0#8
theorem partB_len (l : List (BitVec 8)) (k : Nat) (h : k ≤ l.length) : (partB l k).length = l.length := by simp [partB]; omega
theorem partB_zero (l : List (BitVec 8)) : partB l 0 = List.replicate l.length 0#8 := by simp [partB]
theorem partB_all (l : List (BitVec 8)) : partB l l.length = l := by simp [partB]
theorem partB_step (l : List (BitVec 8)) (k : Nat) (x : BitVec 8) (h : l[k]? = some x) : (by8 (partB l k)).set k (.int .u8 (uv x)) = by8 (partB l (k + 1)) := by
  obtain ⟨hk, rfl⟩ := List.getElem?_eq_some_iff.1 h
  simp only [by8, partB]
  rw [← List.map_set (f := fun x : BitVec 8 => Value.int .u8 (uv x)) (a := l[k])]
  congr 1
  rw [List.take_succ_eq_append_getElem hk, List.set_append, if_neg (by rw [List.length_take]; omega)]
  simp only [List.length_take, Nat.min_eq_left (Nat.le_of_lt hk), Nat.sub_self, List.append_assoc]
  congr 1
  rw [show l.length - k = (l.length - (k + 1)) + 1 by omega, List.replicate_succ]
  rfl
theorem app_law {P : Program} {t e : TypeId} {z : Value} {size bytes : Nat} (E : ElemOk P t e z size bytes) {ops : Array Oper} {rest : List Oper} {o : Oper} {a : Act} {w : World} {Q : Exit → Act → World → Prop} (hgd : o.guard = none) (s x : Operand)
    (ho : o.op = .call { callee := .builtin .append, args := #[s, x], argTypes := #[t, t] }) (base : Nat) (v : Value) (n : Nat) (xs : List Value) (hs : a.eval s = v) (hown : w.ownsRow base e size v n xs)
    (ad : Option Addr) (m c : Nat) (news : List Value) (hx : a.eval x = .slice ad m c) (hnil : ad = none → c = 0) (hmc : m ≤ c) (hrow : Row w ad news) (hl : news.length = m * size) (h1 : ∀ u ∈ news, u.oneCell' = true)
    (h63 : n + m ≤ 9223372036854775807) (hbytes : (n + m) * bytes ≤ 140737488355328) (hbase : base ≤ w.heap.size)
    (h : ∀ v' w', w'.ownsRow base e size v' (n + m) (xs ++ news) → w.grownBy w' v.ownBlock → (v' = .slice none 0 0 ↔ v = .slice none 0 0 ∧ m = 0) → wpList P ops Q rest (a.put o.dst v') w') : wpList P ops Q (o :: rest) a w := by
  obtain ⟨i, hi, hz0, hz1, hz2⟩ := E.info
  cases ad with
  | none =>
    have hc := hnil rfl
    subst hc
    obtain rfl : m = 0 := by omega
    have hn : news = [] := List.length_eq_zero_iff.1 (by rw [hl, Nat.zero_mul])
    subst hn
    refine wpList_append_own_none hgd s x t ho base e i size E.under hi v n xs hs hown hx (h v w (by simpa using hown) (World.grownBy.refl _ _) (by simp))
  | some ad =>
    refine wpList_append_own w hgd s x t ho base e i z size bytes E.under hi hz0 hz1 hz2 E.cells E.pos v n xs hs hown ad m c news hx hl ?_ h1 h63 hbytes hbase h
    intro j u hj
    obtain ⟨b, o, e1, e2⟩ := hrow.at hj
    cases e1
    simpa [Addr.add] using (show w.cell? ((⟨b, o, none⟩ : Addr).add j) = some u by
      unfold Addr.add; split
      · rename_i h0; subst h0; simpa using e2
      · exact e2)

/-- v is a slice of slices of bytes that hold ls. -/
def PartsV (w : World) (v : Value) (ls : List (List (BitVec 8))) : Prop :=
  ∃ a c vs, v = .slice a ls.length c ∧ (a = none → c = 0) ∧ ls.length ≤ c ∧ c ≤ 9223372036854775807 ∧ Row w a vs ∧ vs.length = ls.length ∧ ∀ (i : Nat) (l : List (BitVec 8)), ls[i]? = some l → ∃ u, vs[i]? = some u ∧ BytesV w u l
theorem PartsV.below {w w' : World} {v : Value} {ls : List (List (BitVec 8))} (h : PartsV w v ls) (hb : Below w.heap.size w w') : PartsV w' v ls := by
  obtain ⟨a, c, vs, e, h0, h1, h2, h3, h4, h5⟩ := h
  exact ⟨a, c, vs, e, h0, h1, h2, h3.below hb, h4, fun i l hl => let ⟨u, hu, hv⟩ := h5 i l hl; ⟨u, hu, hv.below hb⟩⟩
end Go.Proofs.YtabfmhlhdebcpaaGreatDoor
