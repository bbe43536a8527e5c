/- Merged: FwMath, FwA, FwB, FwC, FwKit, FwD, FwE, FwF, FwG, FwH. -/
import Derived.Test.YtabfmhlhdebcpaaGreatDoorWireMath2
import Derived.Test.YtabfmhlhdebcpaaGreatDoorWireJ
import Derived.Test.YtabfmhlhdebcpaaGreatDoorWireK
import Derived.Test.YtabfmhlhdebcpaaGreatDoorRef01D
import Derived.Test.YtabfmhlhdebcpaaGreatDoorOpenG
import Derived.Test.YtabfmhlhdebcpaaGreatDoorWireC
import Derived.Test.YtabfmhlhdebcpaaGreatDoorRows2
import Derived.Test.YtabfmhlhdebcpaaGreatDoorMidL
import Derived.Test.YtabfmhlhdebcpaaGreatDoorRfJoin
import Derived.Test.YtabfmhlhdebcpaaGreatDoorRfQuiet
import Derived.Test.YtabfmhlhdebcpaaGreatDoorRfPlan
import Derived.Maps.OwnIn
import Derived.Deep.RegionLaw
import Derived.Lib.SliceRun
import Derived.Deep.DeepCutAuto
import Derived.Deep.QuietTactic
import Derived.BigQuiet
namespace Go.Proofs.YtabfmhlhdebcpaaGreatDoor
set_option linter.unusedVariables false
set_option linter.unusedSimpArgs false
namespace Fw
abbrev Bs := List (BitVec 8)
structure Cfg where
  n : Int
  ro : Bool
  rev : Bs
  mx : Int
structure Stt where
  act : Int
  nxt : Int
  revs : List Bs
structure Pc where
  at_ : Nat
  d : Bs
structure St where
  c : Cfg
  s : Stt
  ps : List Pc
def revOk (s : Bs) : Bool := decide (1 ≤ s.length) && decide (s.length ≤ 8) && Wire.plain s && !(s.head? == some 32#8) && !(s.getLast? == some 32#8)
def cfgOk (c : Cfg) : Bool := decide (1 ≤ c.n) && decide (c.n ≤ 7) && decide (12 ≤ c.mx) && decide (c.mx ≤ 1048576) && decide (c.mx.tmod 4 = 0) && revOk c.rev
def imgOk (r b : Bs) : Bool := revOk r && decide (b.length ≤ 1048564)
def imgB (r b : Bs) : Bs := r ++ List.replicate (8 - r.length) 32#8 ++ Wire.le (BitVec.ofNat 64 (12 + b.length)) 4 ++ b
/-- Pieces by increasing offset, apart, none empty. -/
def Sep : Nat → List Pc → Prop
  | _, [] => True
  | lo, p :: ps => lo ≤ p.at_ ∧ 1 ≤ p.d.length ∧ Sep (p.at_ + p.d.length) ps
theorem Sep.mono {lo lo' : Nat} (h : lo' ≤ lo) : ∀ {ps : List Pc}, Sep lo ps → Sep lo' ps
  | [], _ => trivial
  | _ :: _, h1 => ⟨Nat.le_trans h h1.1, h1.2⟩
theorem Sep.at {ps : List Pc} : ∀ {lo i : Nat} {p : Pc}, Sep lo ps → ps[i]? = some p → lo ≤ p.at_ ∧ 1 ≤ p.d.length := by
  induction ps with
  | nil => intro lo i p _ h; simp at h
  | cons x ps ih =>
    intro lo i p h hp
    cases i with
    | zero => simp at hp; subst hp; exact ⟨h.1, h.2.1⟩
    | succ i =>
      obtain ⟨a, b⟩ := ih (i := i) h.2.2 (by simpa using hp)
      exact ⟨by have := h.1; omega, b⟩
theorem Sep.lt {ps : List Pc} : ∀ {lo i j : Nat} {p q : Pc}, Sep lo ps → i < j → ps[i]? = some p → ps[j]? = some q → p.at_ + p.d.length ≤ q.at_ := by
  induction ps with
  | nil => intro lo i j p q _ _ h; simp at h
  | cons x ps ih =>
    intro lo i j p q h hij hp hq
    cases j with
    | zero => omega
    | succ j =>
      rw [List.getElem?_cons_succ] at hq
      cases i with
      | zero => rw [List.getElem?_cons_zero] at hp; cases hp; exact (Sep.at h.2.2 hq).1
      | succ i => rw [List.getElem?_cons_succ] at hp; exact ih (i := i) (j := j) h.2.2 (by omega) hp hq
/-- How many begin before an offset. -/
def pos (at_ : Nat) (ps : List Pc) : Nat := (ps.takeWhile (fun p => decide (p.at_ < at_))).length
theorem pos_le (a : Nat) (ps : List Pc) : pos a ps ≤ ps.length := by
  unfold pos; exact (List.takeWhile_prefix _).length_le
theorem pos_lt {a : Nat} {ps : List Pc} : ∀ {i : Nat} {p : Pc}, i < pos a ps → ps[i]? = some p → p.at_ < a := by
  induction ps with
  | nil => intro i p h; simp [pos] at h
  | cons x ps ih =>
    intro i p h hp
    unfold pos at h
    rw [List.takeWhile_cons] at h
    split at h
    · rename_i hx
      cases i with
      | zero => simp at hp; subst hp; exact of_decide_eq_true hx
      | succ i => exact ih (i := i) (by unfold pos; simpa using h) (by simpa using hp)
    · simp at h
theorem pos_at {a : Nat} {ps : List Pc} : ∀ {p : Pc}, ps[pos a ps]? = some p → a ≤ p.at_ := by
  induction ps with
  | nil => intro p h; simp at h
  | cons x ps ih =>
    intro p h
    unfold pos at h
    rw [List.takeWhile_cons] at h
    split at h
    · exact ih (by unfold pos; simpa using h)
    · rename_i hx
      simp at h hx; subst h; exact hx
theorem pos_ge {a : Nat} {ps : List Pc} {lo i : Nat} {p : Pc} (hs : Sep lo ps) (h : pos a ps ≤ i) (hp : ps[i]? = some p) : a ≤ p.at_ := by
  have hi := (List.getElem?_eq_some_iff.1 hp).1
  rcases Nat.eq_or_lt_of_le h with e | e
  · subst e; exact pos_at hp
  · have h1 : ps[pos a ps]? = some ps[pos a ps] := List.getElem?_eq_getElem (by omega)
    have := pos_at h1
    have := Sep.lt hs e h1 hp
    omega
/-- The place is known by what lies on both sides. -/
theorem pos_is {a : Nat} {ps : List Pc} {lo k : Nat} (hs : Sep lo ps) (hk : k ≤ ps.length) (h1 : ∀ i p, i < k → ps[i]? = some p → p.at_ < a) (h2 : ∀ p, ps[k]? = some p → a ≤ p.at_) : pos a ps = k := by
  rcases Nat.lt_trichotomy (pos a ps) k with h | h | h
  · have h3 : ps[pos a ps]? = some ps[pos a ps] := List.getElem?_eq_getElem (by omega)
    have := h1 _ _ h h3
    have := pos_at h3
    omega
  · exact h
  · have := pos_le a ps
    have h3 : ps[k]? = some ps[k] := List.getElem?_eq_getElem (by omega)
    have := h2 _ h3
    have := pos_lt h h3
    omega
def ovl (a n : Nat) (p : Pc) : Bool := decide (p.at_ < a + n) && decide (a < p.at_ + p.d.length)
def ins (a : Nat) (d : Bs) (ps : List Pc) : List Pc := ps.take (pos a ps) ++ ⟨a, d⟩ :: ps.drop (pos a ps)
def dlBad (c : Cfg) (a n : Nat) : Bool := !(decide (a % 4 = 0)) || !(decide (n % 4 = 0)) || decide (n = 0) || decide (c.mx < (a + n : Nat))
def dlE (x : St) (a : Nat) (d : Bs) : Nat := if dlBad x.c a d.length then 2 else if x.ps.any (ovl a d.length) then 276 else 0
def dlS (x : St) (a : Nat) (d : Bs) : St := if dlE x a d = 0 then { x with ps := ins a d x.ps } else x
/-- Only the neighbours can overlap. -/
theorem ovl_near {a n lo : Nat} {ps : List Pc} (hs : Sep lo ps) (hn : 0 < n) : ps.any (ovl a n) = ((match (if pos a ps = 0 then none else ps[pos a ps - 1]?) with | some p => decide (a < p.at_ + p.d.length) | none => false) || (match ps[pos a ps]? with | some p => decide (p.at_ < a + n) | none => false)) := by
  rw [Bool.eq_iff_iff, List.any_eq_true]
  constructor
  · rintro ⟨p, hp, ho⟩
    obtain ⟨j, hj⟩ := List.mem_iff_getElem?.1 hp
    have hjl := (List.getElem?_eq_some_iff.1 hj).1
    unfold ovl at ho
    simp only [Bool.and_eq_true, decide_eq_true_eq] at ho
    rcases Nat.lt_or_ge j (pos a ps) with h | h
    · have hz : ¬ pos a ps = 0 := by omega
      rw [if_neg hz]
      have h3 : ps[pos a ps - 1]? = some (ps[pos a ps - 1]'(by have := pos_le a ps; omega)) := List.getElem?_eq_getElem _
      rw [h3, Bool.or_eq_true]
      left
      simp only [decide_eq_true_eq]
      rcases Nat.eq_or_lt_of_le (show j ≤ pos a ps - 1 by omega) with e | e
      · subst e
        rw [hj] at h3
        rw [← Option.some.inj h3]; exact ho.2
      · have := Sep.lt hs e hj h3
        have := pos_lt (show pos a ps - 1 < pos a ps by omega) h3
        omega
    · have h3 : ps[pos a ps]? = some (ps[pos a ps]'(by omega)) := List.getElem?_eq_getElem _
      rw [h3, Bool.or_eq_true]
      right
      simp only [decide_eq_true_eq]
      rcases Nat.eq_or_lt_of_le h with e | e
      · rw [← e, h3] at hj
        rw [Option.some.inj hj]; exact ho.1
      · have := Sep.lt hs e h3 hj
        omega
  · intro h
    rw [Bool.or_eq_true] at h
    rcases h with h | h
    · split at h
      · rename_i p hp
        split at hp
        · cases hp
        · rename_i hz
          refine ⟨p, List.mem_of_getElem? hp, ?_⟩
          have h1 := pos_lt (show pos a ps - 1 < pos a ps by omega) hp
          have h2 := of_decide_eq_true h
          unfold ovl
          rw [decide_eq_true (show p.at_ < a + n by omega), decide_eq_true h2]; rfl
      · cases h
    · split at h
      · rename_i p hp
        refine ⟨p, List.mem_of_getElem? hp, ?_⟩
        have h1 := pos_at hp
        have h2 := of_decide_eq_true h
        have h3 := (Sep.at hs hp).2
        unfold ovl
        rw [decide_eq_true h2, decide_eq_true (show a < p.at_ + p.d.length by omega)]; rfl
      · cases h
/-- The bytes of the pieces, and whether they follow each other. -/
def cat (ps : List Pc) : Bs := ps.flatMap (·.d)
def contig : Nat → List Pc → Bool
  | _, [] => true
  | e, p :: ps => decide (p.at_ = e) && contig (e + p.d.length) ps
def rd4 (b : Bs) : BitVec 64 := Wire.get ((b.take 12).drop 8)
def imgIs (b : Bs) : Bool := decide (12 ≤ b.length) && decide (uv (rd4 b) = (b.length : Int)) && Wire.plain (b.take 8) && revOk (Wire.rstrip (b.take 8))
def nm (ps : List Pc) : Bs := if contig 0 ps && imgIs (cat ps) then Wire.rstrip ((cat ps).take 8) else []
theorem nm_nil (ps : List Pc) : nm ps = [] ↔ (contig 0 ps && imgIs (cat ps)) = false := by
  unfold nm
  split
  · rename_i h
    constructor
    · intro e
      rw [Bool.and_eq_true] at h
      have h2 := h.2
      unfold imgIs at h2
      rw [e] at h2
      simp [revOk] at h2
    · intro e; rw [e] at h; cases h
  · rename_i h
    exact ⟨fun _ => by simpa using h, fun _ => rfl⟩
theorem nm_len (ps : List Pc) : (nm ps).length ≤ 8 := by
  unfold nm
  split
  · unfold Wire.rstrip
    rw [List.length_reverse]
    have h1 := (List.dropWhile_suffix (fun x : BitVec 8 => x == 32#8) (l := ((cat ps).take 8).reverse)).length_le
    rw [List.length_reverse, List.length_take] at h1
    omega
  · simp
/-! commit -/
def wr (x : St) (k : Int) : Bool := decide (1 ≤ k) && decide (k ≤ x.c.n) && !(k == x.s.act) && !(k == 1 && x.c.ro)
def revAt (x : St) (k : Int) : Bs := x.s.revs.getD (k - 1).toNat []
def fl (x : St) (k : Int) : Bool := decide (1 ≤ k) && decide (k ≤ x.c.n) && !(revAt x k == [])
/-- The lowest slot that can be written, or 0. -/
def low (x : St) : Int := match (List.range 7).find? (fun i => wr x ((i : Nat) + 1 : Int)) with | some i => i + 1 | none => 0
def pick (x : St) (k : Int) : Int := if k = 0 then low x else k
def stS (x : St) (k : Int) : St := if wr x (pick x k) then (if nm x.ps = [] then { x with ps := [] } else { x with ps := [], s := { x.s with revs := x.s.revs.set (pick x k - 1).toNat (nm x.ps) } }) else x
def stE (x : St) (k : Int) : Nat := if wr x (pick x k) then (if nm x.ps = [] then 263 else 0) else 262
def cmE (x : St) (k a : Int) : Nat := if a < 0 ∨ 3 < a then 2 else if 1 < a then (if fl x k then 0 else 262) else stE x k
def cmS (x : St) (k a : Int) : St :=
  if a < 0 ∨ 3 < a then x
  else if a = 2 then (if fl x k then { x with s := { x.s with nxt := k } } else x)
  else if a = 3 then (if fl x k then { x with s := { x.s with act := k, nxt := 0 } } else x)
  else if a = 1 ∧ stE x k = 0 then { stS x k with s := { (stS x k).s with nxt := pick x k } }
  else stS x k
def rsB (x : St) : Bool := !(x.s.nxt == 0) && !(x.s.nxt == x.s.act)
def rsS (x : St) : St := { x with ps := [], s := if x.s.nxt = 0 then x.s else { x.s with act := x.s.nxt, nxt := 0 } }
def new (c : Cfg) : St := ⟨c, ⟨1, 0, c.rev :: List.replicate 6 []⟩, []⟩
/-- What holds of slots at all times. -/
structure Ok (x : St) : Prop where
  cfg : cfgOk x.c = true
  len : x.s.revs.length = 7
  short : ∀ r ∈ x.s.revs, r.length ≤ 8
  act : 1 ≤ x.s.act ∧ x.s.act ≤ x.c.n
  nxt : 0 ≤ x.s.nxt ∧ x.s.nxt ≤ x.c.n
  here : revAt x x.s.act ≠ []
  there : x.s.nxt ≠ 0 → revAt x x.s.nxt ≠ []
  kept : x.c.ro = true → revAt x 1 = x.c.rev
  sep : Sep 0 x.ps
  top : ∀ p ∈ x.ps, ((p.at_ + p.d.length : Nat) : Int) ≤ x.c.mx
theorem cfgOk_is {c : Cfg} (h : cfgOk c = true) : 1 ≤ c.n ∧ c.n ≤ 7 ∧ 12 ≤ c.mx ∧ c.mx ≤ 1048576 ∧ c.mx.tmod 4 = 0 ∧ revOk c.rev = true := by
  unfold cfgOk at h
  simp only [Bool.and_eq_true, decide_eq_true_eq] at h
  obtain ⟨⟨⟨⟨⟨a, b⟩, c⟩, d⟩, e⟩, f⟩ := h
  exact ⟨a, b, c, d, e, f⟩
theorem revOk_is {s : Bs} (h : revOk s = true) : 1 ≤ s.length ∧ s.length ≤ 8 ∧ Wire.plain s = true ∧ s.head? ≠ some 32#8 ∧ s.getLast? ≠ some 32#8 := by
  unfold revOk at h
  simp only [Bool.and_eq_true, decide_eq_true_eq] at h
  obtain ⟨⟨⟨⟨a, b⟩, c⟩, d⟩, e⟩ := h
  exact ⟨a, b, c, by simpa using d, by simpa using e⟩
theorem Ok.new {c : Cfg} (h : cfgOk c = true) : Ok (new c) := by
  obtain ⟨h1, h2, h3, h4, h5, h6⟩ := cfgOk_is h
  obtain ⟨r1, r2, -⟩ := revOk_is h6
  refine ⟨h, rfl, ?_, ⟨Int.le_refl _, h1⟩, ⟨Int.le_refl _, by show (0 : Int) ≤ c.n; omega⟩, ?_, fun h => absurd rfl h, fun _ => rfl, trivial, fun p hp => by cases hp⟩
  · intro r hr
    simp [Fw.new] at hr
    rcases hr with rfl | ⟨-, rfl⟩
    · exact r2
    · simp
  · show c.rev ≠ []
    intro e; rw [e] at r1; simp at r1
theorem revAt_set (x : St) (k j : Int) (r : Bs) (hk : 1 ≤ k ∧ k ≤ 7) (hj : 1 ≤ j) (hl : x.s.revs.length = 7) (y : St) (hy : y.s.revs = x.s.revs.set (k - 1).toNat r) : revAt y j = if j = k then r else revAt x j := by
  unfold revAt
  rw [hy, List.getD_eq_getElem?_getD, List.getElem?_set]
  split
  · rename_i e
    have e2 : j = k := by omega
    subst e2
    rw [if_pos (by omega), if_pos rfl]
    rfl
  · rename_i e
    have : j ≠ k := fun h => e (by rw [h])
    rw [if_neg this, List.getD_eq_getElem?_getD]
theorem wr_is {x : St} {k : Int} (h : wr x k = true) : 1 ≤ k ∧ k ≤ x.c.n ∧ k ≠ x.s.act ∧ (k = 1 → x.c.ro = false) := by
  unfold wr at h
  simp only [Bool.and_eq_true, decide_eq_true_eq] at h
  obtain ⟨⟨⟨a, b⟩, c⟩, d⟩ := h
  refine ⟨a, b, by simpa using c, fun e => ?_⟩
  subst e
  simpa using d
theorem fl_is {x : St} {k : Int} (h : fl x k = true) : 1 ≤ k ∧ k ≤ x.c.n ∧ revAt x k ≠ [] := by
  unfold fl at h
  simp only [Bool.and_eq_true, decide_eq_true_eq] at h
  exact ⟨h.1.1, h.1.2, by simpa using h.2⟩
theorem Ok.empty {x : St} (h : Ok x) : Ok { x with ps := [] } := ⟨h.cfg, h.len, h.short, h.act, h.nxt, h.here, h.there, h.kept, trivial, fun p hp => by cases hp⟩
theorem Ok.st {x : St} (h : Ok x) (k : Int) : Ok (stS x k) := by
  unfold stS
  split
  · rename_i hw
    obtain ⟨w1, w2, w3, w4⟩ := wr_is hw
    obtain ⟨c1, c2, -⟩ := cfgOk_is h.cfg
    split
    · exact h.empty
    · rename_i hn
      have hset := fun j hj => revAt_set x (pick x k) j (nm x.ps) ⟨w1, by omega⟩ hj h.len { x with ps := [], s := { x.s with revs := x.s.revs.set (pick x k - 1).toNat (nm x.ps) } } rfl
      refine ⟨h.cfg, by simp [h.len], ?_, h.act, h.nxt, ?_, ?_, ?_, trivial, fun p hp => by cases hp⟩
      · intro r hr
        rcases List.mem_or_eq_of_mem_set hr with h1 | h1
        · exact h.short r h1
        · subst h1; exact nm_len _
      · rw [hset _ h.act.1]
        split
        · exact hn
        · exact h.here
      · intro hz
        have hz' : x.s.nxt ≠ 0 := hz
        rw [hset _ (by have := h.nxt.1; show (1 : Int) ≤ x.s.nxt; omega)]
        split
        · exact hn
        · exact h.there hz
      · intro hr
        rw [hset 1 (by omega), if_neg (fun e => by have h9 := w4 e.symm; rw [show x.c.ro = true from hr] at h9; cases h9)]
        exact h.kept hr
  · exact h
theorem stE_zero {x : St} {k : Int} (h : stE x k = 0) : wr x (pick x k) = true ∧ nm x.ps ≠ [] := by
  unfold stE at h
  split at h
  · rename_i h1
    split at h
    · cases h
    · exact ⟨h1, by assumption⟩
  · cases h
theorem Ok.cm {x : St} (h : Ok x) (k a : Int) : Ok (cmS x k a) := by
  unfold cmS
  split
  · exact h
  split
  · split
    · rename_i hf
      obtain ⟨f1, f2, f3⟩ := fl_is hf
      exact ⟨h.cfg, h.len, h.short, h.act, ⟨by show (0 : Int) ≤ k; omega, f2⟩, h.here, fun _ => f3, h.kept, h.sep, h.top⟩
    · exact h
  split
  · split
    · rename_i hf
      obtain ⟨f1, f2, f3⟩ := fl_is hf
      exact ⟨h.cfg, h.len, h.short, ⟨f1, f2⟩, ⟨Int.le_refl _, by have := (cfgOk_is h.cfg).1; show (0 : Int) ≤ x.c.n; omega⟩, f3, fun hz => absurd rfl hz, h.kept, h.sep, h.top⟩
    · exact h
  split
  · rename_i hz
    obtain ⟨z1, z2⟩ := stE_zero hz.2
    obtain ⟨w1, w2, w3, w4⟩ := wr_is z1
    have hs := h.st k
    have hset : revAt (stS x k) (pick x k) = nm x.ps := by
      unfold stS
      rw [if_pos z1, if_neg z2]
      have := revAt_set x (pick x k) (pick x k) (nm x.ps) ⟨w1, by have := (cfgOk_is h.cfg).2.1; omega⟩ w1 h.len { x with ps := [], s := { x.s with revs := x.s.revs.set (pick x k - 1).toNat (nm x.ps) } } rfl
      rw [this, if_pos rfl]
    have hc : (stS x k).c = x.c := by unfold stS; repeat' split; all_goals rfl
    exact ⟨hs.cfg, hs.len, hs.short, hs.act, ⟨by show (0 : Int) ≤ pick x k; omega, by show pick x k ≤ (stS x k).c.n; rw [hc]; exact w2⟩, hs.here, fun _ => by show revAt (stS x k) (pick x k) ≠ []; rw [hset]; exact z2, hs.kept, hs.sep, hs.top⟩
  · exact h.st k
theorem Ok.rs {x : St} (h : Ok x) : Ok (rsS x) := by
  unfold rsS
  split
  · exact h.empty
  · rename_i hz
    exact ⟨h.cfg, h.len, h.short, ⟨by have := h.nxt.1; show (1 : Int) ≤ x.s.nxt; omega, h.nxt.2⟩, ⟨Int.le_refl _, by have := (cfgOk_is h.cfg).1; show (0 : Int) ≤ x.c.n; omega⟩, h.there hz, fun hz => absurd rfl hz, h.kept, trivial, fun p hp => by cases hp⟩
theorem Sep.put {a : Nat} {d : Bs} {ps : List Pc} : ∀ {lo : Nat}, Sep lo ps → lo ≤ a → 0 < d.length → ps.any (ovl a d.length) = false → Sep lo (ins a d ps) := by
  induction ps with
  | nil => intro lo _ h1 h2 _; exact ⟨h1, h2, trivial⟩
  | cons x ps ih =>
    intro lo hs h1 h2 ho
    rw [List.any_cons, Bool.or_eq_false_iff] at ho
    by_cases hx : x.at_ < a
    · have e : ins a d (x :: ps) = x :: ins a d ps := by
        unfold ins pos
        rw [List.takeWhile_cons, if_pos (decide_eq_true hx)]
        rfl
      rw [e]
      refine ⟨hs.1, hs.2.1, ih hs.2.2 ?_ h2 ho.2⟩
      have h3 := ho.1
      unfold ovl at h3
      rw [decide_eq_true (show x.at_ < a + d.length by omega), Bool.true_and] at h3
      have := of_decide_eq_false h3
      omega
    · have e : ins a d (x :: ps) = ⟨a, d⟩ :: x :: ps := by
        unfold ins pos
        rw [List.takeWhile_cons, if_neg (by simpa using hx)]
        rfl
      rw [e]
      refine ⟨h1, h2, ?_, hs.2.1, hs.2.2⟩
      have h3 := ho.1
      have h4 := hs.2.1
      unfold ovl at h3
      rw [decide_eq_true (show a < x.at_ + x.d.length by omega), Bool.and_true] at h3
      have := of_decide_eq_false h3
      show a + d.length ≤ x.at_
      omega
theorem ins_mem {a : Nat} {d : Bs} {ps : List Pc} {p : Pc} (h : p ∈ ins a d ps) : p = ⟨a, d⟩ ∨ p ∈ ps := by
  unfold ins at h
  rcases List.mem_append.1 h with h | h
  · exact .inr (List.mem_of_mem_take h)
  · rcases List.mem_cons.1 h with h | h
    · exact .inl h
    · exact .inr (List.mem_of_mem_drop h)
theorem dlE_zero {x : St} {a : Nat} {d : Bs} (h : dlE x a d = 0) : dlBad x.c a d.length = false ∧ x.ps.any (ovl a d.length) = false := by
  unfold dlE at h
  split at h
  · cases h
  · rename_i h1
    split at h
    · cases h
    · rename_i h2; exact ⟨by simpa using h1, by simpa using h2⟩
theorem dlBad_no {c : Cfg} {a n : Nat} (h : dlBad c a n = false) : a % 4 = 0 ∧ n % 4 = 0 ∧ n ≠ 0 ∧ ((a + n : Nat) : Int) ≤ c.mx := by
  unfold dlBad at h
  simp only [Bool.or_eq_false_iff, Bool.not_eq_false', decide_eq_true_eq, decide_eq_false_iff_not] at h
  obtain ⟨⟨⟨h1, h2⟩, h3⟩, h4⟩ := h
  exact ⟨h1, h2, h3, by omega⟩
theorem Ok.dl {x : St} (h : Ok x) (a : Nat) (d : Bs) : Ok (dlS x a d) := by
  unfold dlS
  split
  · rename_i hz
    obtain ⟨h1, h2⟩ := dlE_zero hz
    obtain ⟨b1, b2, b3, b4⟩ := dlBad_no h1
    refine ⟨h.cfg, h.len, h.short, h.act, h.nxt, h.here, h.there, h.kept, Sep.put h.sep (Nat.zero_le _) (by omega) h2, fun p hp => ?_⟩
    rcases ins_mem hp with e | e
    · subst e; exact b4
    · exact h.top p e
  · exact h
/-- How many bytes and pieces there are. -/
theorem Sep.sum {ps : List Pc} : ∀ {lo hi : Nat}, Sep lo ps → lo ≤ hi → (∀ p ∈ ps, p.at_ + p.d.length ≤ hi) → (cat ps).length + lo ≤ hi ∧ ps.length + lo ≤ hi := by
  induction ps with
  | nil => intro lo hi _ h _; simpa [cat] using h
  | cons x ps ih =>
    intro lo hi hs h ht
    have h1 := ht x (by simp)
    obtain ⟨a, b⟩ := ih hs.2.2 h1 (fun p hp => ht p (by simp [hp]))
    have := hs.1
    have := hs.2.1
    unfold cat at a ⊢
    rw [List.flatMap_cons, List.length_append, List.length_cons]
    omega
theorem Ok.sum {x : St} (h : Ok x) : (cat x.ps).length ≤ 1048576 ∧ x.ps.length ≤ 1048576 := by
  obtain ⟨-, -, h3, h4, -⟩ := cfgOk_is h.cfg
  have h5 := Sep.sum (hi := x.c.mx.toNat) h.sep (Nat.zero_le _) (fun p hp => by have := h.top p hp; omega)
  omega
/-! the lowest slot -/
theorem low_at {x : St} {j : Nat} (hj : j < 7) (h1 : ∀ i : Nat, i < j → wr x ((i : Int) + 1) = false) (h2 : wr x ((j : Int) + 1) = true) : low x = (j : Int) + 1 := by
  have h : (List.range 7).find? (fun i => wr x ((i : Nat) + 1 : Int)) = some j := by
    rw [List.find?_range_eq_some]
    refine ⟨h2, ?_, fun i hi => by rw [h1 i hi]; rfl⟩
    exact List.mem_range.2 hj
  unfold low
  rw [h]
theorem low_no {x : St} (h1 : ∀ i : Nat, i < 7 → wr x ((i : Int) + 1) = false) : low x = 0 := by
  have h : (List.range 7).find? (fun i => wr x ((i : Nat) + 1 : Int)) = none := by
    rw [List.find?_eq_none]
    intro i hi
    rw [h1 i (List.mem_range.1 hi)]; decide
  unfold low
  rw [h]
theorem wr_big {x : St} {k : Int} (h : x.c.n < k) : wr x k = false := by
  unfold wr
  rw [decide_eq_false (show ¬ k ≤ x.c.n by omega)]; simp
/-! the pieces, one behind the other, as a machine counts -/
def foldC (s : Bool × Int) (p : Int × Int) : Bool × Int := (s.1 && (p.1 == s.2), (s.2 + p.2))
theorem fold_contig {ps : List Pc} : ∀ {lo e : Nat} {b : Bool}, ps.foldl (fun s p => foldC s ((p.at_ : Int), (p.d.length : Int))) (b, (e : Int)) = ((b && contig e ps), ((e + (cat ps).length : Nat) : Int)) := by
  induction ps with
  | nil => intro lo e b; simp [contig, cat]
  | cons p ps ih =>
    intro lo e b
    rw [List.foldl_cons]
    have h1 : foldC (b, (e : Int)) ((p.at_ : Int), (p.d.length : Int)) = ((b && decide (p.at_ = e)), ((e + p.d.length : Nat) : Int)) := by
      unfold foldC
      congr 1
      congr 1
      by_cases h : p.at_ = e
      · rw [h]; simp
      · rw [decide_eq_false h]; simp; omega
    rw [h1, ih (lo := lo)]
    refine Prod.ext ?_ ?_
    · show (b && decide (p.at_ = e) && contig (e + p.d.length) ps) = (b && contig e (p :: ps))
      rw [show contig e (p :: ps) = (decide (p.at_ = e) && contig (e + p.d.length) ps) from rfl, Bool.and_assoc]
    · show ((e + p.d.length + (cat ps).length : Nat) : Int) = ((e + (cat (p :: ps)).length : Nat) : Int)
      unfold cat
      rw [List.flatMap_cons, List.length_append]; omega
/-- The pieces that a list of places names. -/
def seqW (f : Nat → Int × Int) (xs : List Nat) : Bool × Int := xs.foldl (fun s i => foldC s (f i)) (true, 0)
theorem seqW_more (f : Nat → Int × Int) (xs : List Nat) (i : Nat) : seqW f (xs ++ [i]) = foldC (seqW f xs) (f i) := by
  unfold seqW; rw [List.foldl_append]; rfl
theorem seqW_bound (f : Nat → Int × Int) (hf : ∀ i, 0 ≤ (f i).2 ∧ (f i).2 ≤ 1048576) : ∀ xs : List Nat, 0 ≤ (seqW f xs).2 ∧ (seqW f xs).2 ≤ xs.length * 1048576 := by
  have key : ∀ (xs : List Nat) (s : Bool × Int), 0 ≤ s.2 → 0 ≤ (xs.foldl (fun s i => foldC s (f i)) s).2 ∧ (xs.foldl (fun s i => foldC s (f i)) s).2 ≤ s.2 + xs.length * 1048576 := by
    intro xs
    induction xs with
    | nil => intro s h; exact ⟨h, by simp⟩
    | cons i xs ih =>
      intro s h
      have h1 := hf i
      have h2 : (foldC s (f i)).2 = s.2 + (f i).2 := rfl
      have h3 := ih (foldC s (f i)) (by omega)
      rw [List.foldl_cons, List.length_cons]
      omega
  intro xs
  have h := key xs (true, 0) (Int.le_refl _)
  unfold seqW
  simp only at h
  omega
theorem seqW_all (f : Nat → Int × Int) (ps : List Pc) (h : ∀ i p, ps[i]? = some p → f i = ((p.at_ : Int), (p.d.length : Int))) : seqW f (List.range ps.length) = (contig 0 ps, ((cat ps).length : Int)) := by
  have key : ∀ k, k ≤ ps.length → seqW f (List.range k) = (ps.take k).foldl (fun s p => foldC s ((p.at_ : Int), (p.d.length : Int))) (true, 0) := by
    intro k
    induction k with
    | zero => intro _; rfl
    | succ k ih =>
      intro hk
      have hp : ps[k]? = some ps[k] := List.getElem?_eq_getElem (by omega)
      rw [List.range_succ, seqW_more, ih (by omega), h k _ hp, List.take_add_one, hp, List.foldl_append]
      rfl
  rw [key _ (Nat.le_refl _), List.take_length]
  have := fold_contig (ps := ps) (lo := 0) (e := 0) (b := true)
  simpa using this
/-! texts -/
theorem dw_id : ∀ (l : Bs), l.head? ≠ some 32#8 → l.dropWhile (· == 32#8) = l
  | [], _ => rfl
  | x :: l, h => by
    rw [List.dropWhile_cons, if_neg]
    intro e
    exact h (by rw [List.head?_cons, eq_of_beq e])
theorem dw_lt : ∀ (l : Bs), l.head? = some 32#8 → (l.dropWhile (· == 32#8)).length < l.length
  | [], h => by cases h
  | x :: l, h => by
    rw [List.head?_cons] at h
    have e : x = 32#8 := Option.some.inj h
    rw [List.dropWhile_cons, if_pos (by rw [e]; rfl), List.length_cons]
    have h1 := (List.dropWhile_suffix (fun x : BitVec 8 => x == 32#8) (l := l)).length_le
    exact Nat.lt_succ_of_le h1
def trim (s : Bs) : Bs := (Wire.rstrip s).dropWhile (· == 32#8)
theorem rstrip_le (s : Bs) : (Wire.rstrip s).length ≤ s.length := by
  unfold Wire.rstrip
  rw [List.length_reverse]
  have h1 := (List.dropWhile_suffix (fun x : BitVec 8 => x == 32#8) (l := s.reverse)).length_le
  rw [List.length_reverse] at h1
  exact h1
theorem rstrip_id {s : Bs} (h : s.getLast? ≠ some 32#8) : Wire.rstrip s = s := by
  unfold Wire.rstrip
  rw [dw_id _ (by rw [List.head?_reverse]; exact h), List.reverse_reverse]
theorem trim_is {s : Bs} : (trim s == s) = (!(s.head? == some 32#8) && !(s.getLast? == some 32#8)) := by
  by_cases h1 : s.getLast? = some 32#8
  · have h2 : (Wire.rstrip s).length < s.length := by
      unfold Wire.rstrip
      rw [List.length_reverse]
      have := dw_lt s.reverse (by rw [List.head?_reverse]; exact h1)
      rw [List.length_reverse] at this
      exact this
    have h3 := (List.dropWhile_suffix (fun x : BitVec 8 => x == 32#8) (l := Wire.rstrip s)).length_le
    have h4 : trim s ≠ s := fun e => by
      have := congrArg List.length e
      unfold trim at this
      omega
    rw [beq_false_of_ne h4, h1]; simp
  · unfold trim
    rw [rstrip_id h1]
    by_cases h2 : s.head? = some 32#8
    · have h3 := dw_lt s h2
      have h4 : s.dropWhile (· == 32#8) ≠ s := fun e => by
        have := congrArg List.length e
        omega
      rw [beq_false_of_ne h4, h2]; simp
    · rw [dw_id s h2, beq_false_of_ne h2, beq_false_of_ne h1]; simp
theorem revOk_eq (s : Bs) : revOk s = (decide (Wire.padE s 8 = 0) && (!(s == []) && (trim s == s))) := by
  rw [trim_is]
  unfold revOk Wire.padE
  cases hp : Wire.plain s
  · simp
  · cases s with
    | nil => rfl
    | cons x l =>
      by_cases hl : (x :: l).length ≤ 8
      · rw [if_neg (by simp), if_neg (by omega)]
        simp only [List.length_cons] at hl
        have h1 : l.length ≤ 7 := by omega
        simp [h1]
      · rw [if_neg (by simp), if_pos (by omega)]
        simp only [List.length_cons] at hl
        have h1 : ¬ l.length ≤ 7 := by omega
        simp [h1]
end Fw
end Go.Proofs.YtabfmhlhdebcpaaGreatDoor
namespace Go.Proofs.YtabfmhlhdebcpaaGreatDoor
open Go.RowKit Fw
set_option linter.unusedVariables false
set_option linter.unusedSimpArgs false
theorem strOf_empty (s : Bs) : (strOf s).toList.isEmpty = (s == []) := by
  rw [strOf_toList]; cases s <;> rfl
theorem strOf_size' (s : Bs) : (strOf s).size = s.length := by unfold strOf ByteArray.size; simp
theorem Trim_at (s m : Bs) (w : World) (hl : s.length ≤ 9223372036854775807) (hm : Fw.trim s = m) :
    Calls Tryz.prog 53 #[.string (strOf s), .string ⟨#[32]⟩] w fun e w' => e = .returned (.string (strOf m)) ∧ Below w.heap.size w w' := by
  refine (Tryz.strings_Trim_one (strOf s) 32 (by decide) w (by rw [strOf_size']; exact hl)).mono ?_
  rintro e w' ⟨rfl, hw⟩
  refine ⟨?_, ?_⟩
  · have e1 : (⟨(Lib.trimB (strOf s).data.toList 32).toArray⟩ : ByteArray) = strOf m := by
      have h1 := Wire.trim_sp s
      have h2 : (Lib.trimRightB (strOf s).data.toList 32) = (Wire.rstrip s).map UInt8.ofBitVec := by
        have := congrArg (fun b : ByteArray => b.data.toList) h1
        simpa [strOf] using this
      unfold Lib.trimB Lib.trimLeftB
      rw [h2, Wire.dropWhile_map, ← hm]
      rfl
    rw [e1]
  · rcases hw with rfl | rfl
    · exact Below.refl _ _
    · exact gr_drew _
theorem revision_at (s : Bs) (b : Bool) (w : World) (hl : s.length ≤ 9223372036854775807) (hb : revOk s = b) :
    Calls Tryz.prog 28 #[.string (strOf s)] w fun e w' => e = .returned (.bool b) ∧ Below w.heap.size w w' := by
  rw [revOk_eq] at hb
  obtain ⟨e0, he⟩ : ∃ e, Wire.padE s 8 = e := ⟨_, rfl⟩
  obtain ⟨m0, hm⟩ : ∃ m, Wire.pad s 8 = m := ⟨_, rfl⟩
  have PAD := Lib.hid (fun w => Pad_at s 8 e0 m0 w hl (by decide) he hm)
  have TRM := Lib.hid (fun w => Trim_at s _ w hl rfl)
  have hemp := strOf_empty s
  have hcmp : ((strOf (Fw.trim s)).toList == (strOf s).toList) = (Fw.trim s == s) := strOf_beq _ _
  rw [he] at hb
  obtain ⟨b1, h1⟩ : ∃ z, (s == []) = z := ⟨_, rfl⟩
  obtain ⟨b2, h2⟩ : ∃ z, (Fw.trim s == s) = z := ⟨_, rfl⟩
  obtain ⟨tr, htr⟩ : ∃ z, strOf (Fw.trim s) = z := ⟨_, rfl⟩
  rw [h1] at hemp hb
  rw [h2] at hcmp hb
  rw [htr] at hcmp TRM
  obtain ⟨st, hst⟩ : ∃ z, strOf s = z := ⟨_, rfl⟩
  rw [hst] at hemp hcmp TRM PAD ⊢
  have HB := Lib.hid hb
  clear h1 h2 htr hst hb he hm
  by_cases h0 : e0 = 0
  · subst h0
    cases b1
    · go_enter Tryz.func28, Tryz.ntmps28
      go_wp2_with (first
        | (go_at_call 52; go_loud (refine (PAD.out _).mono ?_; rintro e w1 ⟨u1, rfl, hu, hb1⟩; have C1 := Lib.hid hb1; clear hu hb1))
        | (go_at_call 53; go_loud (refine (TRM.out _).mono ?_; rintro e w2 ⟨rfl, hb2⟩; have C2 := Lib.hid (gr_tr C1.out hb2); clear hb2)))
      go_ret
      exact ⟨by rw [← HB.out]; rfl, C2.out⟩
    · go_enter Tryz.func28, Tryz.ntmps28
      go_wp2_with (go_at_call 52; go_loud (refine (PAD.out _).mono ?_; rintro e w1 ⟨u1, rfl, hu, hb1⟩; have C1 := Lib.hid hb1; clear hu hb1))
      go_ret
      exact ⟨by rw [← HB.out]; rfl, C1.out⟩
  · have hne : (e0 == 0) = false := by simpa using h0
    have HB2 := Lib.hid (show false = b by rw [← HB.out, decide_eq_false h0]; rfl)
    go_enter Tryz.func28, Tryz.ntmps28
    go_wp2_with (go_at_call 52; go_loud (refine (PAD.out _).mono ?_; rintro e w1 ⟨u1, rfl, hu, hb1⟩; have C1 := Lib.hid hb1; clear hu hb1))
    go_ret
    exact ⟨by rw [← HB2.out]; rfl, C1.out⟩
theorem run_at_str (w : World) (s : Bs) (st : ByteArray) (i : Nat) (x : BitVec 8) (hst : strOf s = st) (hx : s[i]? = some x) : (Instr.index 9 (.string st) (.int .i64 (i : Int))).run Tryz.prog w = .ok (.int .u8 (uv x)) w := by
  have hi := (List.getElem?_eq_some_iff.1 hx).1
  have hsz : st.size = s.length := by rw [← hst]; exact strOf_size' s
  rw [run_index_string w 9 st .i64 i Tryz.underlying9, dif_pos ⟨by omega, by rw [hsz]; omega⟩]
  subst hst
  congr 2
  have : s[i] = x := by rw [List.getElem?_eq_getElem hi] at hx; exact Option.some.inj hx
  simp [strOf, ← this, uv, ByteArray.get, ByteArray.getElem_eq_getElem_data]
theorem uv8_ne32 (x : BitVec 8) : (uv x != 32) = !(x == 32#8) := by
  have h : (32 : Int) = uv 32#8 := rfl
  rw [h, uv_bne]; rfl
set_option maxRecDepth 20000 in
theorem rRevision_at (s : Bs) (b : Bool) (w : World) (hl : s.length ≤ 9223372036854775807) (hb : revOk s = b) :
    Calls Tryz.prog 29 #[.string (strOf s)] w fun e w' => e = .returned (.bool b) ∧ Below w.heap.size w w' := by
  obtain ⟨n, hn⟩ : ∃ n, s.length = n := ⟨_, rfl⟩
  have hsz := strOf_size' s
  rw [hn] at hsz
  obtain ⟨st, hst⟩ : ∃ z, strOf s = z := ⟨_, rfl⟩
  have HB := Lib.hid hb
  by_cases g1 : 1 ≤ n
  · by_cases g2 : n ≤ 8
    · obtain ⟨v, w1, hrun, hown, hbl⟩ := conv_bytes w s (by omega)
      obtain ⟨x, hx⟩ : ∃ x, s[0]? = some x := ⟨_, List.getElem?_eq_getElem (by omega)⟩
      obtain ⟨y, hy⟩ : ∃ y, s[n - 1]? = some y := ⟨_, List.getElem?_eq_getElem (by omega)⟩
      have r0 : ∀ w, (Instr.index 9 (.string st) (.int .i64 (0 : Int))).run Tryz.prog w = .ok (.int .u8 (uv x)) w := fun w => run_at_str w s st 0 x hst hx
      have r1 := fun w => run_at_str w s st (n - 1) y hst hy
      rw [show ((n - 1 : Nat) : Int) = (n : Int) - 1 by omega] at r1
      have V := Lib.hid hown.bytes
      obtain ⟨bp, hbp⟩ : ∃ z, Wire.plain s = z := ⟨_, rfl⟩
      have PLN := Lib.hid (fun w h => rPlain_any v s bp w h hbp)
      obtain ⟨bx, hbx⟩ : ∃ z, (x == 32#8) = z := ⟨_, rfl⟩
      obtain ⟨by', hby⟩ : ∃ z, (y == 32#8) = z := ⟨_, rfl⟩
      have ux := uv8_ne32 x
      have uy := uv8_ne32 y
      rw [hbx] at ux
      rw [hby] at uy
      have BV := Lib.hid (show (bp && (!bx && !by')) = b by
        rw [← hb]
        unfold revOk
        rw [decide_eq_true (by omega), decide_eq_true (by omega), hbp, List.head?_eq_getElem?, hx, List.getLast?_eq_getElem?, hn, hy, ← hbx, ← hby]
        cases bp <;> simp)
      obtain ⟨X, hX⟩ : ∃ z, uv x = z := ⟨_, rfl⟩
      obtain ⟨Y, hY⟩ : ∃ z, uv y = z := ⟨_, rfl⟩
      rw [hX] at ux r0
      rw [hY] at uy r1
      have C1 := Lib.hid hbl
      rw [hst] at hrun ⊢
      rw [hst] at hsz
      obtain ⟨av, nv, cv, hv⟩ : ∃ a n c, v = .slice a n c := by obtain ⟨a, c, h, _⟩ := hown.bytes; exact ⟨_, _, _, h⟩
      subst hv
      clear hb hown hbl hbp hbx hby hx hy hX hY hst hn hl
      cases bp
      · go_enter Tryz.func29, Tryz.ntmps29
        go_wp2_with (go_at_call 54; go_loud (refine (PLN.out _ V.out).mono ?_; rintro e w2 ⟨rfl, rfl⟩))
        go_ret
        exact ⟨by rw [← BV.out]; rfl, C1.out⟩
      · cases bx
        · go_enter Tryz.func29, Tryz.ntmps29
          go_wp2_with (go_at_call 54; go_loud (refine (PLN.out _ V.out).mono ?_; rintro e w2 ⟨rfl, rfl⟩))
          go_ret
          exact ⟨by rw [← BV.out]; rfl, C1.out⟩
        · go_enter Tryz.func29, Tryz.ntmps29
          go_wp2_with (go_at_call 54; go_loud (refine (PLN.out _ V.out).mono ?_; rintro e w2 ⟨rfl, rfl⟩))
          go_ret
          exact ⟨by rw [← BV.out]; rfl, C1.out⟩
    · have hb0 : b = false := by rw [← hb]; unfold revOk; rw [decide_eq_false (show ¬ s.length ≤ 8 by omega)]; simp
      subst hb0
      have h9 : ¬ ((n : Int) ≤ 8) := by omega
      rw [hst] at hsz ⊢
      clear hb hst hn
      go_enter Tryz.func29, Tryz.ntmps29
      go_wp2
      go_ret
      exact ⟨rfl, Below.refl _ _⟩
  · have hb0 : b = false := by rw [← hb]; unfold revOk; rw [decide_eq_false (show ¬ 1 ≤ s.length by omega)]; simp
    subst hb0
    have h9 : ¬ (1 ≤ (n : Int)) := by omega
    rw [hst] at hsz ⊢
    clear hb hst hn
    go_enter Tryz.func29, Tryz.ntmps29
    go_wp2
    go_ret
    exact ⟨rfl, Below.refl _ _⟩
end Go.Proofs.YtabfmhlhdebcpaaGreatDoor
namespace Go.Proofs.YtabfmhlhdebcpaaGreatDoor
open Go.RowKit Fw
set_option linter.unusedVariables false
set_option linter.unusedSimpArgs false
namespace Fw
/-- The codes that occur. -/
def Kn (c : Nat) : Prop := c = 0 ∨ c = 2 ∨ c = 6 ∨ c = 262 ∨ c = 263 ∨ c = 276
def stC (c : Nat) : Array Value := #[.int .u8 ((c / 256 : Nat) : Int), .int .u8 ((c % 256 : Nat) : Int), .bool false, .bool false]
theorem stC_size (c : Nat) : (stC c).size = 4 := rfl
theorem stC_one (c : Nat) : (stC c).all (·.oneCell') = true := by simp [stC, Value.oneCell']
end Fw
set_option maxRecDepth 20000 in
theorem Make_at (c : Nat) (w : World) (h : Kn c) : Calls Tryz.prog 60 #[.int .u16 (c : Int), .bool false] w fun e w' => e = .returned (.agg (stC c)) ∧ Below w.heap.size w w' := by
  rcases h with rfl | rfl | rfl | rfl | rfl | rfl
  · change Calls Tryz.prog 60 #[.int .u16 0, .bool false] w fun e w' => e = .returned (.agg #[.int .u8 0, .int .u8 0, .bool false, .bool false]) ∧ Below w.heap.size w w'
    go_enter Tryz.func60, Tryz.ntmps60
    go_wp2_with (refine wpList_store_new rfl 56 (.tmp 4) (.tmp 12) rfl #[.int .u8 0, .int .u8 0, .bool false, .bool false] 56 _ rfl (by kernel_rfl) (by kernel_rfl) rfl (by simp [Value.oneCell']) ?_; intro w2 h2 hb; have X2 := Lib.hid h2; have C2 := Lib.hid hb; clear h2 hb)
    exact bodyPost_ret (results_cell_row rfl _ _ w.heap.size 56 _ (0, 0) _ rfl X2.out Tryz.underlying56 rfl (by kernel_rfl)) rfl ⟨rfl, C2.out⟩
  · change Calls Tryz.prog 60 #[.int .u16 2, .bool false] w fun e w' => e = .returned (.agg #[.int .u8 0, .int .u8 2, .bool false, .bool false]) ∧ Below w.heap.size w w'
    go_enter Tryz.func60, Tryz.ntmps60
    go_wp2_with (refine wpList_store_new rfl 56 (.tmp 4) (.tmp 12) rfl #[.int .u8 0, .int .u8 2, .bool false, .bool false] 56 _ rfl (by kernel_rfl) (by kernel_rfl) rfl (by simp [Value.oneCell']) ?_; intro w2 h2 hb; have X2 := Lib.hid h2; have C2 := Lib.hid hb; clear h2 hb)
    exact bodyPost_ret (results_cell_row rfl _ _ w.heap.size 56 _ (0, 0) _ rfl X2.out Tryz.underlying56 rfl (by kernel_rfl)) rfl ⟨rfl, C2.out⟩
  · change Calls Tryz.prog 60 #[.int .u16 6, .bool false] w fun e w' => e = .returned (.agg #[.int .u8 0, .int .u8 6, .bool false, .bool false]) ∧ Below w.heap.size w w'
    go_enter Tryz.func60, Tryz.ntmps60
    go_wp2_with (refine wpList_store_new rfl 56 (.tmp 4) (.tmp 12) rfl #[.int .u8 0, .int .u8 6, .bool false, .bool false] 56 _ rfl (by kernel_rfl) (by kernel_rfl) rfl (by simp [Value.oneCell']) ?_; intro w2 h2 hb; have X2 := Lib.hid h2; have C2 := Lib.hid hb; clear h2 hb)
    exact bodyPost_ret (results_cell_row rfl _ _ w.heap.size 56 _ (0, 0) _ rfl X2.out Tryz.underlying56 rfl (by kernel_rfl)) rfl ⟨rfl, C2.out⟩
  · change Calls Tryz.prog 60 #[.int .u16 262, .bool false] w fun e w' => e = .returned (.agg #[.int .u8 1, .int .u8 6, .bool false, .bool false]) ∧ Below w.heap.size w w'
    go_enter Tryz.func60, Tryz.ntmps60
    go_wp2_with (refine wpList_store_new rfl 56 (.tmp 4) (.tmp 12) rfl #[.int .u8 1, .int .u8 6, .bool false, .bool false] 56 _ rfl (by kernel_rfl) (by kernel_rfl) rfl (by simp [Value.oneCell']) ?_; intro w2 h2 hb; have X2 := Lib.hid h2; have C2 := Lib.hid hb; clear h2 hb)
    exact bodyPost_ret (results_cell_row rfl _ _ w.heap.size 56 _ (0, 0) _ rfl X2.out Tryz.underlying56 rfl (by kernel_rfl)) rfl ⟨rfl, C2.out⟩
  · change Calls Tryz.prog 60 #[.int .u16 263, .bool false] w fun e w' => e = .returned (.agg #[.int .u8 1, .int .u8 7, .bool false, .bool false]) ∧ Below w.heap.size w w'
    go_enter Tryz.func60, Tryz.ntmps60
    go_wp2_with (refine wpList_store_new rfl 56 (.tmp 4) (.tmp 12) rfl #[.int .u8 1, .int .u8 7, .bool false, .bool false] 56 _ rfl (by kernel_rfl) (by kernel_rfl) rfl (by simp [Value.oneCell']) ?_; intro w2 h2 hb; have X2 := Lib.hid h2; have C2 := Lib.hid hb; clear h2 hb)
    exact bodyPost_ret (results_cell_row rfl _ _ w.heap.size 56 _ (0, 0) _ rfl X2.out Tryz.underlying56 rfl (by kernel_rfl)) rfl ⟨rfl, C2.out⟩
  · change Calls Tryz.prog 60 #[.int .u16 276, .bool false] w fun e w' => e = .returned (.agg #[.int .u8 1, .int .u8 20, .bool false, .bool false]) ∧ Below w.heap.size w w'
    go_enter Tryz.func60, Tryz.ntmps60
    go_wp2_with (refine wpList_store_new rfl 56 (.tmp 4) (.tmp 12) rfl #[.int .u8 1, .int .u8 20, .bool false, .bool false] 56 _ rfl (by kernel_rfl) (by kernel_rfl) rfl (by simp [Value.oneCell']) ?_; intro w2 h2 hb; have X2 := Lib.hid h2; have C2 := Lib.hid hb; clear h2 hb)
    exact bodyPost_ret (results_cell_row rfl _ _ w.heap.size 56 _ (0, 0) _ rfl X2.out Tryz.underlying56 rfl (by kernel_rfl)) rfl ⟨rfl, C2.out⟩
theorem status_at (c : Nat) (w : World) (h : Kn c) : Calls Tryz.prog 41 #[.int .u16 (c : Int)] w fun e w' => e = .returned (.agg (stC c)) ∧ Below w.heap.size w w' := by
  have MK := Lib.hid (fun w => Make_at c w h)
  obtain ⟨cs, hcs⟩ : ∃ z, stC c = z := ⟨_, rfl⟩
  have SZ := Lib.hid (show cs.size = 4 by rw [← hcs]; rfl)
  have SO := Lib.hid (show cs.all (·.oneCell') = true by rw [← hcs]; exact stC_one c)
  rw [hcs] at MK ⊢
  obtain ⟨z, hz⟩ : ∃ z, (c : Int) = z := ⟨_, rfl⟩
  rw [hz] at MK ⊢
  clear h hz hcs
  obtain ⟨W, hW⟩ : ∃ W, W = w.alloc (.cells #[.int .u8 0, .int .u8 0, .bool false, .bool false] 56) := ⟨_, rfl⟩
  have D := Lib.hid (show Below w.heap.size w W by rw [hW]; exact gr_alloc w _)
  have X := Lib.hid (show W.heap[w.heap.size]? = some (.cells #[.int .u8 0, .int .u8 0, .bool false, .bool false] 56 (0, 0)) by rw [hW]; exact heap_alloc_new w _)
  have HW := Lib.hid hW
  clear hW
  go_enter Tryz.func41, Tryz.ntmps41
  go_upto_region 1 with fail
  rw [← HW.out]
  go_wp2_with (first
    | (go_at_call 60; go_loud (refine (MK.out _).mono ?_; rintro e w1 ⟨rfl, hb⟩; have X1 := Lib.hid (blk_below X.out hb); have D1 := Lib.hid (gr_tr D.out hb); clear hb))
    | (refine wpList_store_row rfl 56 (.tmp 2) (.tmp 4) rfl w.heap.size cs rfl rfl 56 _ X1.out (by rw [SZ.out]; kernel_rfl) (by rw [SZ.out]; rfl) SO.out ?_))
  exact bodyPost_ret (results_cell_row rfl _ _ w.heap.size 56 _ (0, 0) _ rfl (setRow_heap _ _ _ _ _ _ X1.out) Tryz.underlying56 rfl (by rw [SZ.out]; kernel_rfl)) rfl ⟨rfl, below_setRow D1.out (Nat.le_refl _) _⟩
/-! The reference's Code, and the law's 'is'. -/
set_option maxRecDepth 20000 in
theorem pCode_at (c : Nat) (w : World) (h : Kn c) : Calls Tryz.prog 39 #[.agg (stC c)] w fun e w' => e = .returned (.int .i64 (c : Int)) ∧ Below w.heap.size w w' := by
  rcases h with rfl | rfl | rfl | rfl | rfl | rfl
  · change Calls Tryz.prog 39 #[.agg #[.int .u8 0, .int .u8 0, .bool false, .bool false]] w fun e w' => e = .returned (.int .i64 0) ∧ Below w.heap.size w w'
    go_enter Tryz.func39, Tryz.ntmps39
    go_wp2
    go_ret
    exact ⟨rfl, gr_alloc _ _⟩
  · change Calls Tryz.prog 39 #[.agg #[.int .u8 0, .int .u8 2, .bool false, .bool false]] w fun e w' => e = .returned (.int .i64 2) ∧ Below w.heap.size w w'
    go_enter Tryz.func39, Tryz.ntmps39
    go_wp2
    go_ret
    exact ⟨rfl, gr_alloc _ _⟩
  · change Calls Tryz.prog 39 #[.agg #[.int .u8 0, .int .u8 6, .bool false, .bool false]] w fun e w' => e = .returned (.int .i64 6) ∧ Below w.heap.size w w'
    go_enter Tryz.func39, Tryz.ntmps39
    go_wp2
    go_ret
    exact ⟨rfl, gr_alloc _ _⟩
  · change Calls Tryz.prog 39 #[.agg #[.int .u8 1, .int .u8 6, .bool false, .bool false]] w fun e w' => e = .returned (.int .i64 262) ∧ Below w.heap.size w w'
    go_enter Tryz.func39, Tryz.ntmps39
    go_wp2
    go_ret
    exact ⟨rfl, gr_alloc _ _⟩
  · change Calls Tryz.prog 39 #[.agg #[.int .u8 1, .int .u8 7, .bool false, .bool false]] w fun e w' => e = .returned (.int .i64 263) ∧ Below w.heap.size w w'
    go_enter Tryz.func39, Tryz.ntmps39
    go_wp2
    go_ret
    exact ⟨rfl, gr_alloc _ _⟩
  · change Calls Tryz.prog 39 #[.agg #[.int .u8 1, .int .u8 20, .bool false, .bool false]] w fun e w' => e = .returned (.int .i64 276) ∧ Below w.heap.size w w'
    go_enter Tryz.func39, Tryz.ntmps39
    go_wp2
    go_ret
    exact ⟨rfl, gr_alloc _ _⟩
set_option maxRecDepth 20000 in
theorem is_at (c d : Nat) (b : Bool) (w : World) (h : Kn c) (hb : (c == d) = b) : Calls Tryz.prog 20 #[.agg (stC c), .int .i64 (d : Int)] w fun e w' => e = .returned (.bool b) ∧ Below w.heap.size w w' := by
  have PC := Lib.hid (fun w => pCode_at c w h)
  obtain ⟨W, hW⟩ : ∃ W, W = w.alloc (.cells (stC c) 56) := ⟨_, rfl⟩
  have D := Lib.hid (show Below w.heap.size w W by rw [hW]; exact gr_alloc w _)
  have X := Lib.hid (show W.heap[w.heap.size]? = some (.cells (stC c) 56 (0, 0)) by rw [hW]; exact heap_alloc_new w _)
  have HW := Lib.hid hW
  have hcd : ((c : Int) == (d : Int)) = b := by
    rw [← hb]
    by_cases e : c = d
    · subst e; simp
    · rw [beq_false_of_ne e, beq_false_of_ne (show (c : Int) ≠ d by omega)]
  obtain ⟨C, hC⟩ : ∃ z, (c : Int) = z := ⟨_, rfl⟩
  obtain ⟨E, hE⟩ : ∃ z, (d : Int) = z := ⟨_, rfl⟩
  have X23 := Lib.hid (fun (w' : World) (h : w'.heap[w.heap.size]? = some (.cells (stC c) 56 (0, 0))) => (cell_of_row w' _ 2 _ _ _ h).trans (show (stC c)[2]? = some (.bool false) from rfl))
  have X33 := Lib.hid (fun (w' : World) (h : w'.heap[w.heap.size]? = some (.cells (stC c) 56 (0, 0))) => (cell_of_row w' _ 3 _ _ _ h).trans (show (stC c)[3]? = some (.bool false) from rfl))
  have SZ := Lib.hid (stC_size c)
  obtain ⟨cs, hcs⟩ : ∃ z, stC c = z := ⟨_, rfl⟩
  rw [hcs] at PC X HW X23 X33 SZ ⊢
  rw [hC] at PC hcd
  rw [hE] at hcd ⊢
  clear hC hE hW hb h hcs
  cases b
  all_goals
    go_enter Tryz.func20, Tryz.ntmps20
    go_upto_region 1 with fail
    rw [← HW.out]
    go_wp2_with (first | (refine wpList_load_row rfl 56 (.tmp 2) rfl w.heap.size rfl 56 cs (0, 0) _ X.out Tryz.underlying56 rfl (by rw [SZ.out]; kernel_rfl) ?_) | (go_at_call 39; go_loud (refine (PC.out _).mono ?_; rintro e w1 ⟨rfl, hb⟩; have X1 := blk_below X.out hb; have D1 := Lib.hid (gr_tr D.out hb); have x2 := X23.out _ X1; have x3 := X33.out _ X1; clear hb X1)))
    go_ret
    exact ⟨rfl, D1.out⟩
end Go.Proofs.YtabfmhlhdebcpaaGreatDoor
namespace Go.Proofs.YtabfmhlhdebcpaaGreatDoor
open Go.RowKit Fw
set_option linter.unusedVariables false
set_option linter.unusedSimpArgs false
namespace Fw
def Cfg.cells (c : Cfg) : List Value := [.int .i64 c.n, .bool c.ro, .string (strOf c.rev), .int .i64 c.mx]
def revC (l : List Bs) : List Value := l.map (fun r => Value.string (strOf r))
def Stt.cells (s : Stt) : List Value := [.int .i64 s.act, .int .i64 s.nxt] ++ revC s.revs
def St.cells (x : St) (lv : Value) : List Value := x.c.cells ++ (x.s.cells ++ [lv])
def Cfg.R (c : Cfg) : Prop := I64 c.n ∧ c.rev.length ≤ 9223372036854775807 ∧ I64 c.mx
theorem St.cells_len (x : St) (lv : Value) (h : x.s.revs.length = 7) : (x.cells lv).length = 14 := by
  unfold St.cells Stt.cells revC Cfg.cells
  simp [h]
theorem St.cells_last (x : St) (lv : Value) (h : x.s.revs.length = 7) : (x.cells lv)[13]? = some lv := by
  show ([Value.int .i64 x.c.n, .bool x.c.ro, .string (strOf x.c.rev), .int .i64 x.c.mx, .int .i64 x.s.act, .int .i64 x.s.nxt] ++ (revC x.s.revs ++ [lv]))[13]? = some lv
  rw [List.getElem?_append_right (by simp), List.getElem?_append_right (by unfold revC; simp [h])]
  unfold revC; simp [h]
theorem St.cells_rev (x : St) (lv : Value) (k : Nat) (r : Bs) (h : x.s.revs[k]? = some r) : (x.cells lv)[6 + k]? = some (.string (strOf r)) := by
  show ([Value.int .i64 x.c.n, .bool x.c.ro, .string (strOf x.c.rev), .int .i64 x.c.mx, .int .i64 x.s.act, .int .i64 x.s.nxt] ++ (revC x.s.revs ++ [lv]))[6 + k]? = _
  have hk := (List.getElem?_eq_some_iff.1 h).1
  rw [List.getElem?_append_right (by simp), List.getElem?_append_left (by unfold revC; simp; omega)]
  unfold revC
  rw [List.getElem?_map]
  simp [h]
theorem St.cells_one (x : St) (lv : Value) (h1 : lv.oneCell' = true) : (x.cells lv).toArray.all (·.oneCell') = true := by
  rw [Array.all_eq_true_iff_forall_mem]
  intro v hv
  unfold St.cells Stt.cells revC Cfg.cells at hv
  simp at hv
  rcases hv with rfl | rfl | rfl | rfl | rfl | rfl | ⟨r, -, rfl⟩ | rfl
  all_goals first | exact h1 | rfl
theorem St.set_nxt (x : St) (lv : Value) (k : Int) : (x.cells lv).toArray.setIfInBounds 5 (.int .i64 k) = (St.cells { x with s := { x.s with nxt := k } } lv).toArray := by
  rw [List.setIfInBounds_toArray]; rfl
theorem St.set_act (x : St) (lv : Value) (k : Int) : (x.cells lv).toArray.setIfInBounds 4 (.int .i64 k) = (St.cells { x with s := { x.s with act := k } } lv).toArray := by
  rw [List.setIfInBounds_toArray]; rfl
theorem St.set_last (x : St) (lv lv' : Value) (ps : List Pc) (h : x.s.revs.length = 7) : (x.cells lv).toArray.setIfInBounds 13 lv' = (St.cells { x with ps := ps } lv').toArray := by
  rw [List.setIfInBounds_toArray]
  congr 1
  show ([Value.int .i64 x.c.n, .bool x.c.ro, .string (strOf x.c.rev), .int .i64 x.c.mx, .int .i64 x.s.act, .int .i64 x.s.nxt] ++ (revC x.s.revs ++ [lv])).set 13 lv' = [Value.int .i64 x.c.n, .bool x.c.ro, .string (strOf x.c.rev), .int .i64 x.c.mx, .int .i64 x.s.act, .int .i64 x.s.nxt] ++ (revC x.s.revs ++ [lv'])
  rw [List.set_append, if_neg (by simp), List.set_append, if_neg (by unfold revC; simp [h])]
  unfold revC
  simp [h]
theorem St.set_rev (x : St) (lv : Value) (k : Nat) (r : Bs) (hk : k < 7) (h : x.s.revs.length = 7) : (x.cells lv).toArray.setIfInBounds (6 + k) (.string (strOf r)) = (St.cells { x with s := { x.s with revs := x.s.revs.set k r } } lv).toArray := by
  rw [List.setIfInBounds_toArray]
  congr 1
  show ([Value.int .i64 x.c.n, .bool x.c.ro, .string (strOf x.c.rev), .int .i64 x.c.mx, .int .i64 x.s.act, .int .i64 x.s.nxt] ++ (revC x.s.revs ++ [lv])).set (6 + k) (.string (strOf r)) = [Value.int .i64 x.c.n, .bool x.c.ro, .string (strOf x.c.rev), .int .i64 x.c.mx, .int .i64 x.s.act, .int .i64 x.s.nxt] ++ (revC (x.s.revs.set k r) ++ [lv])
  rw [List.set_append, if_neg (by simp), List.set_append, if_pos (by unfold revC; simp [h]; omega)]
  unfold revC
  rw [List.map_set]
  simp
end Fw
theorem opens_Cfg (w : World) : Opens Tryz.prog w 23 Cfg Cfg.cells Cfg.R := by
  intro H enc sp held fuel cs x h
  obtain ⟨hl, hfs⟩ := trod_fields Tryz.underlying23 h
  rw [show Tryz.prog.cellsOf 23 = 4 by kernel_rfl] at hl
  obtain ⟨y0, a0, r0⟩ := opens_field hfs 0 _ rfl 0 1 rfl (by kernel_rfl) (opens_i64 Tryz.underlying3)
  obtain ⟨y1, a1, r1⟩ := opens_field hfs 1 _ rfl 1 1 rfl (by kernel_rfl) (opens_bool Tryz.underlying4)
  obtain ⟨y2, a2, r2⟩ := opens_field hfs 2 _ rfl 2 1 rfl (by kernel_rfl) (opens_str Tryz.underlying9)
  obtain ⟨y3, a3, r3⟩ := opens_field hfs 3 _ rfl 3 1 rfl (by kernel_rfl) (opens_i64 Tryz.underlying3)
  have e := (glue a0 (by decide : 0 + 1 = 1) (glue a1 (by decide : 1 + 1 = 2) (glue a2 (by decide : 2 + 1 = 3) (glue a3 (by decide : 3 + 1 = 4) (glue_end hl)))))
  rw [List.drop_zero] at e
  exact ⟨⟨y0, y1, y2, y3⟩, e, ⟨r0, r2, r3⟩⟩
theorem cfg_no {c : Cfg} (h : cfgOk c = false) : c.n < 1 ∨ 7 < c.n ∨ c.mx < 12 ∨ 1048576 < c.mx ∨ c.mx.tmod 4 ≠ 0 ∨ revOk c.rev = false := by
  unfold cfgOk at h
  simp only [Bool.and_eq_false_iff, decide_eq_false_iff_not] at h
  rcases h with ((((h | h) | h) | h) | h) | h
  · exact .inl (by omega)
  · exact .inr (.inl (by omega))
  · exact .inr (.inr (.inl (by omega)))
  · exact .inr (.inr (.inr (.inl (by omega))))
  · exact .inr (.inr (.inr (.inr (.inl h))))
  · exact .inr (.inr (.inr (.inr (.inr h))))
set_option maxRecDepth 20000 in
set_option maxHeartbeats 1600000 in
theorem New_no (c : Cfg) (w : World) (hR : c.R) (h : cfgOk c = false) :
    Calls Tryz.prog 10 #[.agg c.cells.toArray] w fun e w' => e = .returned (.tuple #[.pointer none, .int .i64 2]) ∧ Below w.heap.size w w' := by
  obtain ⟨rb, hrb⟩ : ∃ b, revOk c.rev = b := ⟨_, rfl⟩
  have REV := Lib.hid (fun w => revision_at c.rev rb w hR.2.1 hrb)
  have hno := cfg_no h
  rw [hrb] at hno
  obtain ⟨n, ro, rev, mx⟩ := c
  obtain ⟨h1, h2, h3⟩ := hR
  obtain ⟨st, hst⟩ : ∃ s, strOf rev = s := ⟨_, rfl⟩
  show Calls Tryz.prog 10 #[.agg #[.int .i64 n, .bool ro, .string (strOf rev), .int .i64 mx]] w _
  have hno : n < 1 ∨ 7 < n ∨ mx < 12 ∨ 1048576 < mx ∨ mx.tmod 4 ≠ 0 ∨ rb = false := hno
  have REV : Hid (∀ w, Calls Tryz.prog 28 #[.string (strOf rev)] w fun e w' => e = .returned (.bool rb) ∧ Below w.heap.size w w') := REV
  rw [hst] at REV ⊢
  obtain ⟨W, hW⟩ : ∃ W, W = w.alloc (.cells #[.int .i64 n, .bool ro, .string st, .int .i64 mx] 23) := ⟨_, rfl⟩
  have D := Lib.hid (show Below w.heap.size w W by rw [hW]; exact gr_alloc w _)
  have X : W.heap[w.heap.size]? = some (.cells #[.int .i64 n, .bool ro, .string st, .int .i64 mx] 23 (0, 0)) := by rw [hW]; exact heap_alloc_new w _
  have HW := Lib.hid hW
  have c0 : W.cell? ⟨w.heap.size, 0, none⟩ = some (.int .i64 n) := (cell_of_row _ _ 0 _ _ _ X).trans rfl
  have c2 : W.cell? ⟨w.heap.size, 2, none⟩ = some (.string st) := (cell_of_row _ _ 2 _ _ _ X).trans rfl
  have c3 : W.cell? ⟨w.heap.size, 3, none⟩ = some (.int .i64 mx) := (cell_of_row _ _ 3 _ _ _ X).trans rfl
  clear hW X h hst hrb h1 h2 h3
  obtain ⟨t, ht⟩ : ∃ t, mx.tmod 4 = t := ⟨_, rfl⟩
  rw [ht] at hno
  by_cases g1 : n < 1
  · (go_enter Tryz.func10, Tryz.ntmps10; go_upto_region 1 with fail; rw [← HW.out])
    go_wp2
    go_ret2
    exact ⟨rfl, D.out⟩
  by_cases g2 : 7 < n
  · (go_enter Tryz.func10, Tryz.ntmps10; go_upto_region 1 with fail; rw [← HW.out])
    go_wp2
    go_ret2
    exact ⟨rfl, D.out⟩
  by_cases g3 : mx < 12
  · (go_enter Tryz.func10, Tryz.ntmps10; go_upto_region 1 with fail; rw [← HW.out])
    go_wp2
    go_ret2
    exact ⟨rfl, D.out⟩
  by_cases g4 : 1048576 < mx
  · (go_enter Tryz.func10, Tryz.ntmps10; go_upto_region 1 with fail; rw [← HW.out])
    go_wp2
    go_ret2
    exact ⟨rfl, D.out⟩
  by_cases g5 : t = 0
  · have hr : rb = false := by rcases hno with h | h | h | h | h | h <;> first | exact h | exact absurd h (by omega)
    subst hr
    subst g5
    (go_enter Tryz.func10, Tryz.ntmps10; go_upto_region 1 with fail; rw [← HW.out])
    go_wp2_with (go_at_call 28; go_loud (refine (REV.out _).mono ?_; rintro e w1 ⟨rfl, hb⟩; have D1 := Lib.hid (gr_tr D.out hb); clear hb))
    go_ret2
    exact ⟨rfl, D1.out⟩
  · have g6 : (t != 0) = true := by simpa using g5
    (go_enter Tryz.func10, Tryz.ntmps10; go_upto_region 1 with fail; rw [← HW.out])
    go_wp2
    go_ret2
    exact ⟨rfl, D.out⟩
end Go.Proofs.YtabfmhlhdebcpaaGreatDoor
namespace Go.Proofs.YtabfmhlhdebcpaaGreatDoor
open Go.RowKit Go.Shelf
set_option linter.unusedVariables false
set_option linter.unusedSimpArgs false
attribute [local go_sem] Oper.semAt_some
theorem below_cellE {w w' : World} {p : Addr} {v : Value} (hb : Below w.heap.size w w') (h : w.cell? p = some v) : w'.cell? p = some v := by
  refine (hb.cell ?_).trans h
  unfold World.cell? at h
  split at h
  · exact (Array.getElem?_eq_some_iff.1 (by assumption)).1
  all_goals cases h
/-- The cells of an element of a slice of structs. -/
theorem SliceV.rng {w : World} {α : Type} {f : α → List Value} {k : Nat} (hf : ∀ y, (f y).length = k) {v : Value} {xs : List α} (h : SliceV w f v xs) (i : Nat) (x : α) (hx : xs[i]? = some x) (hk : 0 < k) :
    ∃ g o c, v = .slice (some ⟨g, o, none⟩) xs.length c ∧ w.rangeAt g (o + i * k) (f x) := by
  obtain ⟨a, c, rfl, h0, h1, h2, h3⟩ := h
  have hget : ∀ j, j < k → (xs.flatMap f)[i * k + j]? = (f x)[j]? := fun j hj => flat_get hf xs i j x hx hj
  obtain ⟨y, hy⟩ : ∃ y, (f x)[0]? = some y := ⟨_, List.getElem?_eq_getElem (by rw [hf]; exact hk)⟩
  obtain ⟨g, o, rfl, -⟩ := h3.at (i := i * k + 0) (v := y) (by rw [hget 0 hk, hy])
  refine ⟨g, o, c, rfl, fun j z hz => ?_⟩
  have hj : j < k := by have := (List.getElem?_eq_some_iff.1 hz).1; rwa [hf] at this
  obtain ⟨g', o', e1, hc⟩ := h3.at (i := i * k + j) (v := z) (by rw [hget j hj, hz])
  injection e1 with e1; injection e1 with e1 e2; subst e1; subst e2
  rw [Nat.add_assoc]; exact hc
theorem rng_below {w w' : World} {g o : Nat} {cs : List Value} (h : w.rangeAt g o cs) (hb : Below w.heap.size w w') : w'.rangeAt g o cs := fun j v hj => below_cellE hb (h j v hj)
/-- Two rows of different types lie in different blocks. -/
theorem own_apartT {w : World} {b1 b2 : Nat} {e1 e2 : TypeId} {s1 s2 n1 n2 : Nat} {v1 v2 : Value} {x1 x2 : List Value} (h1 : w.ownsRow b1 e1 s1 v1 n1 x1) (h2 : w.ownsRow b2 e2 s2 v2 n2 x2) (hne : e1 ≠ e2) (k : Nat) (k1 : v1.ownBlock = some k) : v2.ownBlock ≠ some k := by
  intro k2
  obtain ⟨-, h1⟩ := h1
  obtain ⟨-, h2⟩ := h2
  rcases h1 with ⟨rfl, _⟩ | ⟨g1, c1, cur1, rfl, _, hh1, _⟩
  · simp [Value.ownBlock] at k1
  rcases h2 with ⟨rfl, _⟩ | ⟨g2, c2, cur2, rfl, _, hh2, _⟩
  · simp [Value.ownBlock] at k2
  simp [Value.ownBlock] at k1 k2
  subst k1; subst k2
  rw [hh1] at hh2
  injection hh2 with hh2; injection hh2 with _ hh2 _
  exact hne hh2
theorem own_apartB {w : World} {b1 : Nat} {e1 t : TypeId} {s1 n1 : Nat} {v1 : Value} {x1 : List Value} {k : Nat} {cs : Array Value} {fr : Nat × Nat} (h1 : w.ownsRow b1 e1 s1 v1 n1 x1) (hk : w.heap[k]? = some (.cells cs t fr)) (hne : e1 ≠ t) : v1.ownBlock ≠ some k := by
  intro k1
  obtain ⟨-, h1⟩ := h1
  rcases h1 with ⟨rfl, _⟩ | ⟨g1, c1, cur1, rfl, _, hh1, _⟩
  · simp [Value.ownBlock] at k1
  simp [Value.ownBlock] at k1
  subst k1
  rw [hh1] at hk
  injection hk with hk; injection hk with _ hk _
  exact hne hk
theorem own_some {w : World} {base : Nat} {e : TypeId} {size : Nat} {a : Option Addr} {n c : Nat} {xs : List Value} (h : w.ownsRow base e size (.slice a n c) n xs) (hn : 0 < n) : ∃ g, a = some ⟨g, 0, none⟩ := by
  obtain ⟨-, h⟩ := h
  rcases h with ⟨-, h⟩ | ⟨g, c', cur, h, -⟩
  · omega
  · injection h with h; exact ⟨g, h⟩
theorem SliceV.nilV {α : Type} {f : α → List Value} (w : World) : SliceV w f (.slice none 0 0) [] := ⟨none, 0, rfl, fun _ => rfl, by simp, by simp, .inl rfl⟩
theorem Keep.chgK {B C : Nat → Prop} {w x x' : World} (h : Keep B w x) (c : Chg C x x') (hr : ∀ k, C k → B k ∨ w.heap.size ≤ k) : Keep B w x' := by
  obtain ⟨y, rfl⟩ := h
  refine ⟨⟨x', Nat.le_trans y.size c.size, fun k hk hn => ?_⟩, rfl⟩
  refine (c.block k (Nat.lt_of_lt_of_le hk y.size) (fun e => ?_)).trans (y.block k hk hn)
  rcases hr k e with h | h
  · exact hn h
  · omega
theorem SliceV.of_own {w : World} {α : Type} {f : α → List Value} {k : Nat} (hk : 0 < k) (hf : ∀ y, (f y).length = k) {base : Nat} {e : TypeId} {v : Value} {xs : List α} (h : w.ownsRow base e k v xs.length (xs.flatMap f)) : SliceV w f v xs := by
  obtain ⟨h1, h2⟩ := h
  rcases h2 with ⟨rfl, e2⟩ | ⟨b, cap, cur, rfl, hg, hh, r1, r2, r3, r4⟩
  · have hn : xs = [] := List.length_eq_zero_iff.1 e2
    subst hn
    exact ⟨none, 0, rfl, fun _ => rfl, by simp, by simp, .inl rfl⟩
  · exact ⟨_, cap, rfl, by simp, r1, r2, Row.of_own ⟨h1, .inr ⟨b, cap, cur, rfl, hg, hh, r1, r2, r3, r4⟩⟩⟩
/-- The sixth law, a loop variable in a block of its own, the act behind the assignment left open; a return and the end. -/
theorem rfH_ret {F : Fence} {n : Nat} {P : Program} {α : Type} {g : Operand} {ps : Array Tmp} {assign body : Code} {Q : Exit → Act → World → Prop} {a : Act} {w : World}
    (hro : F.round = none) (h1 : 1 ≤ n) {gf : Nat} {lb : Array Value} (hg : a.eval g = .func (.func gf) #[] lb) (hFg : F.fn gf) (eg : ∀ args w, (callFunc gf args).run P w = .ok (.enter gf args) w)
    {encs : α → Array Value} {Kp : World → World → Prop} {S Sp : List α → Prop} {N : Nat} {w0 : World} (hseq : SeqStopsK F (n - 1) P gf lb encs Kp S Sp N w0)
    (hKt : ∀ {A B C : World}, Kp A B → Kp B C → Kp A C) (hKb : ∀ (W : World) (l : Nat) (o o' : Obj), w.heap.size ≤ l → W.heap[l]? = some o → o.isCells = false → o.isWalk = false → Kp W (W.putObj l o')) (hb0 : Below w0.heap.size w0 w) (hps : ∀ x, (encs x).size = ps.size)
    (row : α → Array Value) (T : TypeId) (I Ix : List α → World → Prop) (hI : OwnFrom w.heap.size I) (hIx : OwnFrom w.heap.size Ix) (h0 : I [] w)
    (hab : ∃ A : α → Nat → Act, (∀ (l : Nat) (pre : List α) (x : α) (W : World) (K : Act → World → Prop), I pre W → (∀ Bx W', KeepsFrom w.heap.size W W' → Kp W W' → I pre W' → w.heap.size ≤ Bx → W'.heap[Bx]? = some (.cells (row x) T (0, 0)) → K (A x Bx) W') →
      assign.wpIn (F.inRound l) (n - 1 - 1) P (Exit.then K (fun _ _ _ => False)) { tmps := (ps.zip (encs x)).foldl (fun t (p, v) => t.setIfInBounds p v) a.tmps, defers := [] } W) ∧
      (∀ (l : Nat) (pre : List α) (x : α) (Bx : Nat) (W : World), I pre W → w.heap.size ≤ Bx → W.heap[Bx]? = some (.cells (row x) T (0, 0)) → pre.length < N → body.wpIn (F.inRound l) (n - 1 - 1) P (ownPostG w.heap.size Kp I (fun c pre W => c = .ret ∧ Ix pre W) (pre ++ [x]) W) (A x Bx) W))
    (hdone : ∀ (D : Nat) (xs : List α) (W : World), w.heap.size ≤ D → S xs → I xs W → W.heap[D]? = some (.deferred (some [])) → Q .normal { a with defers := { target := .collected D, args := #[] } :: a.defers } W)
    (hstop : ∀ (D : Nat) (pre : List α) (W : World), w.heap.size ≤ D → Sp pre → Ix pre W → W.heap[D]? = some (.deferred (some [])) → Q .ret { a with defers := { target := .collected D, args := #[] } :: a.defers } W) :
    (Code.rangeFunc g ps assign body).wpIn F n P Q a w := by
  obtain ⟨A, ha, hb⟩ := hab
  refine wpIn_rangeFunc_ownH hro h1 hg hFg eg hseq hKt hKb hb0 hps I (fun c pre W => c = .ret ∧ Ix pre W) hI ?_ h0 (fun x a' W => ∃ Bx, w.heap.size ≤ Bx ∧ W.heap[Bx]? = some (.cells (row x) T (0, 0)) ∧ a' = A x Bx) ?_ ?_ ?_ hdone ?_
  · rintro c s A B row ⟨h1, h2⟩ hg hr
    exact ⟨h1, hIx s A B row h2 hg hr⟩
  · rintro x a' s A B r ⟨Bx, e1, e2, e3⟩ hg hr
    refine ⟨Bx, e1, (hg.block Bx (Array.getElem?_eq_some_iff.1 e2).1 (fun e => ?_)).trans e2, e3⟩
    obtain ⟨-, o, h1, h2⟩ := hr Bx e.symm
    rw [e2] at h1; cases h1; cases h2
  · intro l pre x W K hi hK
    exact ha l pre x W K hi (fun Bx W' k1 k2 k3 k4 k5 => hK _ _ k1 k2 k3 ⟨Bx, k4, k5, rfl⟩)
  · rintro l pre x a' W hl hr hi ⟨Bx, e1, e2, rfl⟩ hlt
    exact hb l pre x Bx W hi e1 e2 hlt
  · rintro D c pre W hD hSp ⟨rfl, h2⟩ hK
    exact wpIn_ret (hstop D pre W hD hSp h2 hK)
theorem results_cell1 {P : Program} {fn : Func} {q : Tmp} {tq : TypeId} (h : fn.results = #[.cell q tq]) (tmps : Array Value) (w : World) (g2 : Nat) (v : Value) (t2 : TypeId) (fr2 : Nat × Nat) (d2 : TypeDesc)
    (hq : tmps.getD q undef = .pointer (some ⟨g2, 0, none⟩)) (hg2 : w.heap[g2]? = some (.cells #[v] t2 fr2)) (hu2 : P.underlying tq = some d2) (hd2 : (match d2 with | .struct _ | .array _ _ => true | _ => false) = false) :
    (results fn tmps).run P w = .ok v w := by
  have hq' : tmps[q]?.getD undef = .pointer (some ⟨g2, 0, none⟩) := by simpa using hq
  have hc : w.cell? ⟨g2, 0, none⟩ = some v := (cell_of_row _ _ 0 _ _ _ hg2).trans rfl
  have hl : (loadVar tq ⟨g2, 0, none⟩).run P w = .ok v w := by
    unfold loadVar
    rw [Sem.run_bind, run_isAgg_plain hu2 hd2]
    simp [Result.andThen, hc]
  simp [results, h, hq', asAddr, hl]
theorem run_equalIn_func_nil {P : Program} (t : TypeId) (d : TypeDesc) (hd : P.underlying t = some d) (hf : (match d with | .func .. => true | _ => false) = true) (f : Fn) (a b : Array Value) (w : World) (k : Nat) : (Op.equalIn (k + 1) t (.func f a b) .nilFunc).run P w = .ok false w := by
  cases d <;> simp at hf
  simp [Op.equalIn, run_underlying hd]
theorem run_eql_func_nil {P : Program} (t : TypeId) (d : TypeDesc) (hd : P.underlying t = some d) (hf : (match d with | .func .. => true | _ => false) = true) (f : Fn) (a b : Array Value) (w : World) : (binOp .eql t (.func f a b) .nilFunc).run P w = .ok (.bool false) w := by
  simp only [binOp]
  simp [Op.equal, Op.maxDepth, run_equalIn_func_nil t d hd hf f a b w 9999]
theorem BytesV.keepTL {B : Nat → Prop} {w : World} {v : Value} {l : List (BitVec 8)} (h : BytesV w v l) (y : KeepT B w) (hn : Off B v) : BytesV y.val v l := by
  obtain ⟨a, c, rfl, h0, h1, h2, h3⟩ := h
  refine ⟨a, c, rfl, h0, h1, h2, ?_⟩
  rcases h3 with h | ⟨b, o, rfl, h⟩
  · exact .inl h
  · refine .inr ⟨b, o, rfl, fun i hi => ?_⟩
    rw [List.getElem?_eq_getElem hi]
    exact y.cell ((h i hi).trans (List.getElem?_eq_getElem hi)) (hn b o _ _ rfl)
theorem wp_noexit {P : Program} {c : Code} {K : Act → World → Prop} {Q : Exit → Act → World → Prop} {a : Act} {w : World} (h : c.wp P (Exit.then K (fun _ _ _ => False)) a w) : c.wp P (Exit.then K Q) a w :=
  Code.wp_mono (fun e a w h => by cases e <;> first | exact h | exact h.elim) h
theorem wp_calm {P : Program} {c : Code} {Q : Exit → Act → World → Prop} {a : Act} {w : World} (h : c.wp P (Exit.then (Q .normal) (fun _ _ _ => False)) a w) : c.wp P Q a w :=
  Code.wp_mono (fun e a w h => by cases e <;> first | exact h | exact h.elim) h
theorem wpListIn_load_row {F : Fence} {n : Nat} {P : Program} {ops : Array Oper} {rest : List Oper} {o : Oper} {a : Act} {w : World} {Q : Exit → Act → World → Prop} (hgd : o.guard = none) (ty : TypeId) (x : Operand) (ho : o.op = .load ty x)
    (g : Nat) (hx : a.eval x = .pointer (some ⟨g, 0, none⟩)) (t : TypeId) (cs : Array Value) (fr : Nat × Nat) (d : TypeDesc) (hg : w.heap[g]? = some (.cells cs t fr))
    (hu : P.underlying ty = some d) (hd : (match d with | .struct _ | .array _ _ => true | _ => false) = true) (hi : (P.info? ty).map (·.size) = some cs.size)
    (h : wpListIn F n P ops Q rest (a.put o.dst (.agg cs)) w) : wpListIn F n P ops Q (o :: rest) a w := by
  refine wpListIn_plain hgd fun K hK => ?_
  unfold Oper.wpIn
  refine ⟨by simp [Oper.about, ho], ?_⟩
  rw [Oper.semAt_plain F _ _ (by rw [ho]; intro c hc; cases hc)]
  unfold execOp
  simp only [ho, hx, Instr.loadAt, Instr.sureAddr, Sem.run_bind, Sem.run_pure, Result.andThen_ok, run_loadVar_row w g t ty cs fr d hg hu hd hi]
  exact hK _ _ h
theorem wpListIn_store_row {F : Fence} {n : Nat} {P : Program} {ops : Array Oper} {rest : List Oper} {o : Oper} {a : Act} {w : World} {Q : Exit → Act → World → Prop} (hgd : o.guard = none) (ty : TypeId) (x y : Operand) (ho : o.op = .store ty x y)
    (g : Nat) (cells : Array Value) (hx : a.eval x = .pointer (some ⟨g, 0, none⟩)) (hy : a.eval y = .agg cells)
    (t : TypeId) (old : Array Value) (hg : w.heap[g]? = some (.cells old t (0, 0))) (hi : (P.info? ty).map (·.size) = some cells.size)
    (hold : old.size = cells.size) (h1 : cells.all (·.oneCell') = true)
    (h : wpListIn F n P ops Q rest (a.put o.dst undef) (w.setRow g cells)) : wpListIn F n P ops Q (o :: rest) a w := by
  refine wpListIn_plain hgd fun K hK => ?_
  unfold Oper.wpIn
  refine ⟨by simp [Oper.about, ho], ?_⟩
  rw [Oper.semAt_plain F _ _ (by rw [ho]; intro c hc; cases hc)]
  unfold execOp
  simp only [ho, hx, hy, Instr.storeAt, Instr.sureAddr, Sem.run_bind, Sem.run_pure, Result.andThen_ok, run_storeVar_row w g t ty old cells hg hi hold h1]
  exact hK _ _ h
theorem wpListIn_store_new {F : Fence} {n : Nat} {P : Program} {ops : Array Oper} {rest : List Oper} {o : Oper} {a : Act} {W : World} {Q : Exit → Act → World → Prop} (hgd : o.guard = none) (ty : TypeId) (x y : Operand) (ho : o.op = .store ty x y)
    (cells : Array Value) (t : TypeId) (old : Array Value) (hx : a.eval x = .pointer (some ⟨W.heap.size, 0, none⟩)) (hy : a.eval y = .agg cells)
    (hi : (P.info? ty).map (·.size) = some cells.size) (hold : old.size = cells.size) (h1 : cells.all (·.oneCell') = true)
    (h : ∀ w', w'.heap[W.heap.size]? = some (.cells cells t (0, 0)) → Below W.heap.size W w' → wpListIn F n P ops Q rest (a.put o.dst undef) w') : wpListIn F n P ops Q (o :: rest) a (W.alloc (.cells old t)) :=
  wpListIn_store_row hgd ty x y ho W.heap.size cells hx hy t old (heap_alloc_new _ _) hi hold h1 (h _ (setRow_heap _ _ _ _ _ _ (heap_alloc_new _ _)) (below_setRow (gr_alloc _ _) (Nat.le_refl _) _))
/-- 'append(own, x...)' in a round. -/
theorem app_law_in {F : Fence} {nF : Nat} {P : Program} {t e : TypeId} {z : Value} {size bytes : Nat} (E : ElemOk P t e z size bytes) {ops : Array Oper} {rest : List Oper} {o : Oper} {a : Act} {w : World} {Q : Exit → Act → World → Prop} (hgd : o.guard = none) (s x : Operand)
    (ho : o.op = .call { callee := .builtin .append, args := #[s, x], argTypes := #[t, t] }) (base : Nat) (v : Value) (n : Nat) (xs : List Value) (hs : a.eval s = v) (hown : w.ownsRow base e size v n xs)
    (ad : Addr) (m c : Nat) (news : List Value) (hx : a.eval x = .slice (some ad) m c) (hrow : Row w (some ad) news) (hl : news.length = m * size) (h1 : ∀ u ∈ news, u.oneCell' = true)
    (h63 : n + m ≤ 9223372036854775807) (hbytes : (n + m) * bytes ≤ 140737488355328) (hbase : base ≤ w.heap.size)
    (h : ∀ v' w', w'.ownsRow base e size v' (n + m) (xs ++ news) → w.grownBy w' v.ownBlock → (v'.ownBlock = v.ownBlock ∨ v'.ownBlock = some w.heap.size) → wpListIn F nF P ops Q rest (a.put o.dst v') w') : wpListIn F nF P ops Q (o :: rest) a w := by
  obtain ⟨i, hi, hz0, hz1, hz2⟩ := E.info
  refine wpListIn_append_own_at w hgd s x t ho base e i z size bytes E.under hi hz0 hz1 hz2 E.cells E.pos v n xs hs hown ad m c news hx hl ?_ h1 h63 hbytes hbase fun v' w' a1 a2 _ a4 => h v' w' a1 a2 a4
  intro j u hj
  obtain ⟨b, o, e1, e2⟩ := hrow.at hj
  cases e1
  simpa [Addr.add] using (show w.cell? ((⟨b, o, none⟩ : Addr).add j) = some u by
    unfold Addr.add; split
    · rename_i h0; subst h0; simpa using e2
    · exact e2)
/-- Own rows are blocks of cells. -/
theorem own_cells {w : World} {b1 : Nat} {e1 : TypeId} {s1 n1 : Nat} {v1 : Value} {x1 : List Value} (h : w.ownsRow b1 e1 s1 v1 n1 x1) {k : Nat} (hk : v1.ownBlock = some k) : ∃ o, w.heap[k]? = some o ∧ o.isCells = true := by
  obtain ⟨-, h⟩ := h
  rcases h with ⟨rfl, _⟩ | ⟨g, c, cur, rfl, _, hh, _⟩
  · cases hk
  · cases hk; exact ⟨_, hh, rfl⟩
theorem ko_grown {W W' : World} {row : Option Nat} (h : W.grownBy W' row) (hr : ∀ k, row = some k → ∃ o, W.heap[k]? = some o ∧ o.isCells = true) : KeepsOthers W W' :=
  ⟨h.size, fun k o hk ho => (h.block k (Array.getElem?_eq_some_iff.1 hk).1 (fun e => by
    obtain ⟨o2, h1, h2⟩ := hr k e.symm
    rw [h1] at hk; cases hk; rw [h2] at ho; cases ho)).trans hk⟩
theorem wpListIn_load_mid {F : Fence} {n : Nat} {P : Program} {ops : Array Oper} {rest : List Oper} {o : Oper} {a : Act} {w : World} {Q : Exit → Act → World → Prop} (hgd : o.guard = none) (ty : TypeId) (x : Operand) (ho : o.op = .load ty x)
    (b off : Nat) (hx : a.eval x = .pointer (some ⟨b, off, none⟩)) (cs : List Value) (d : TypeDesc) (hc : w.rangeAt b off cs)
    (hu : P.underlying ty = some d) (hd : d.isRow = true) (hi : (P.info? ty).map (·.size) = some cs.length)
    (h : wpListIn F n P ops Q rest (a.put o.dst (.agg cs.toArray)) w) : wpListIn F n P ops Q (o :: rest) a w := by
  refine wpListIn_plain hgd fun K hK => ?_
  unfold Oper.wpIn
  refine ⟨by simp [Oper.about, ho], ?_⟩
  rw [Oper.semAt_plain F _ _ (by rw [ho]; intro c hc; cases hc)]
  unfold execOp
  simp only [ho, hx, Sem.run_bind, Sem.run_pure, Result.andThen_ok, run_loadAt_mid w b off ty cs d hc hu hd hi]
  exact hK _ _ h
theorem rng_same {w w' : World} {g o : Nat} {cs : List Value} (h : w.rangeAt g o cs) (hk : w'.heap[g]? = w.heap[g]?) : w'.rangeAt g o cs := fun j v hj => (World.cell?_of_block (a := ⟨g, o + j, none⟩) hk).trans (h j v hj)
theorem wpList_load_midG {P : Program} {ops : Array Oper} {rest : List Oper} {o : Oper} {a : Act} {w : World} {Q : Exit → Act → World → Prop} (hw : Region.wanted o (yielded ops a.tmps) = true) (ty : TypeId) (x : Operand) (ho : o.op = .load ty x)
    (b off : Nat) (hx : a.eval x = .pointer (some ⟨b, off, none⟩)) (cs : List Value) (d : TypeDesc) (hc : w.rangeAt b off cs)
    (hu : P.underlying ty = some d) (hd : d.isRow = true) (hi : (P.info? ty).map (·.size) = some cs.length)
    (h : wpList P ops Q rest (a.put o.dst (.agg cs.toArray)) w) : wpList P ops Q (o :: rest) a w :=
  wpList_step fun K hK => by rw [if_pos hw]; exact wp_load_mid ty x ho b off hx cs d hc hu hd hi (hK _ _ h)
theorem wpList_store_rowC {P : Program} {ops : Array Oper} {rest : List Oper} {o : Oper} {a : Act} {W : World} {Q : Exit → Act → World → Prop} (hgd : o.guard = none) (ty : TypeId) (x y : Operand) (ho : o.op = .store ty x y) (g : Nat)
    (cells : Array Value) (hx : a.eval x = .pointer (some ⟨g, 0, none⟩)) (hy : a.eval y = .agg cells) (t : TypeId) (old : Array Value) (hg : W.heap[g]? = some (.cells old t (0, 0)))
    (hi : (P.info? ty).map (·.size) = some cells.size) (hold : old.size = cells.size) (h1 : cells.all (·.oneCell') = true)
    (h : ∀ w', w'.heap[g]? = some (.cells cells t (0, 0)) → Chg (fun k => k = g) W w' → wpList P ops Q rest (a.put o.dst undef) w') : wpList P ops Q (o :: rest) a W :=
  wpList_store_row hgd ty x y ho g cells hx hy t old hg hi hold h1 (h _ (setRow_heap _ _ _ _ _ _ hg) (Chg.setRow (B := fun k => k = g) _ rfl _))
theorem rng_sub0 {w : World} {g o : Nat} {a b : List Value} (h : w.rangeAt g o (a ++ b)) : w.rangeAt g o a := fun j v hj => h j v (by rw [List.getElem?_append_left (List.getElem?_eq_some_iff.1 hj).1, hj])
theorem rng_sub {w : World} {g o : Nat} {a b c : List Value} (h : w.rangeAt g o (a ++ (b ++ c))) : w.rangeAt g (o + a.length) b := fun j v hj => by
  have h2 := h (a.length + j) v (by
    rw [List.getElem?_append_right (by omega), Nat.add_sub_cancel_left, List.getElem?_append_left (List.getElem?_eq_some_iff.1 hj).1, hj])
  rw [Nat.add_assoc]; exact h2
theorem rng_row {w : World} {k o : Nat} {a b c : List Value} {t : TypeId} {fr : Nat × Nat} (hk : w.heap[k]? = some (.cells (a ++ (b ++ c)).toArray t fr)) (ho : o = a.length) : w.rangeAt k o b := fun j v hj => by
  subst ho
  refine (cell_of_row _ _ _ _ _ _ hk).trans ?_
  rw [List.getElem?_toArray, List.getElem?_append_right (by omega), Nat.add_sub_cancel_left, List.getElem?_append_left (List.getElem?_eq_some_iff.1 hj).1, hj]
namespace Fw
/-- Values stored one behind the other. -/
def putA : Array Value → Nat → List Value → Array Value
  | c, _, [] => c
  | c, o, v :: r => putA (c.setIfInBounds o v) (o + 1) r
theorem putA_size : ∀ (vs : List Value) (c : Array Value) (o : Nat), (putA c o vs).size = c.size
  | [], _, _ => rfl
  | v :: r, c, o => by unfold putA; rw [putA_size r]; simp
theorem putA_get : ∀ (vs : List Value) (c : Array Value) (o j : Nat), o + vs.length ≤ c.size → (putA c o vs)[j]? = if o ≤ j ∧ j < o + vs.length then vs[j - o]? else c[j]?
  | [], c, o, j, _ => by unfold putA; rw [if_neg (fun h => by have := h.1; have := h.2; simp at *; omega)]
  | v :: r, c, o, j, h => by
    rw [List.length_cons] at h ⊢
    unfold putA
    rw [putA_get r _ _ _ (by simp; omega)]
    by_cases h1 : o + 1 ≤ j ∧ j < o + 1 + r.length
    · rw [if_pos h1, if_pos (by omega), show j - o = (j - (o + 1)) + 1 by omega, List.getElem?_cons_succ]
    · rw [if_neg h1]
      by_cases h2 : j = o
      · subst h2
        rw [if_pos (by omega), Array.getElem?_setIfInBounds_self, Nat.sub_self, List.getElem?_cons_zero, if_pos (show j < c.size by omega)]
      · rw [if_neg (by omega), Array.getElem?_setIfInBounds_ne (by omega)]
theorem putA_heap {g : Nat} {t : TypeId} : ∀ (vs : List Value) (o : Nat) (w : World) (c : Array Value), w.heap[g]? = some (.cells c t (0, 0)) → (w.setCells g o vs).heap[g]? = some (.cells (putA c o vs) t (0, 0))
  | [], _, _, _, h => h
  | v :: r, o, w, c, h => putA_heap r (o + 1) _ _ (heap_setCell_same w g o c t v h)
theorem putA_chg {g : Nat} : ∀ (vs : List Value) (o : Nat) (w : World), Chg (fun k => k = g) w (w.setCells g o vs)
  | [], _, w => Chg.refl _ w
  | v :: r, o, w => (Chg.setCell (B := fun k => k = g) (p := ⟨g, o, none⟩) w rfl v).trans (putA_chg r (o + 1) _)
end Fw
end Go.Proofs.YtabfmhlhdebcpaaGreatDoor
namespace Go.Proofs.YtabfmhlhdebcpaaGreatDoor
open Go.RowKit Fw
set_option linter.unusedVariables false
set_option linter.unusedSimpArgs false
namespace Fw
def pcC (x : Pc × Value) : List Value := [.int .i64 ((x.1.at_ : Nat) : Int), x.2]
theorem pcC_len : ∀ x, (pcC x).length = 2 := fun _ => rfl
/-- The pieces lie in the slice lv, their bytes in the slices dvs. -/
structure PcsAt (T : TypeId) (w : World) (ps : List Pc) (lv : Value) (dvs : List Value) : Prop where
  own : w.ownsRow 0 T 2 lv ps.length ((ps.zip dvs).flatMap pcC)
  len : dvs.length = ps.length
  el : ∀ (i : Nat) (p : Pc) (dv : Value), ps[i]? = some p → dvs[i]? = some dv → w.ownsRow 0 5 1 dv p.d.length (by8 p.d)
structure SlAt (w : World) (p : Nat) (x : St) (lv : Value) (dvs : List Value) : Prop where
  blk : w.heap[p]? = some (.cells (x.cells lv).toArray 74 (0, 0))
  pcs : PcsAt 97 w x.ps lv dvs
  ok : Fw.Ok x
end Fw
section
variable {T : TypeId} {w w' : World} {ps : List Pc} {lv : Value} {dvs : List Value} {p : Nat} {x : St}
theorem Fw.PcsAt.below (h : PcsAt T w ps lv dvs) (hb : Below w.heap.size w w') : PcsAt T w' ps lv dvs := ⟨own_below h.own hb, h.len, fun i p dv h1 h2 => own_below (h.el i p dv h1 h2) hb⟩
theorem Fw.PcsAt.nil (T : TypeId) (w : World) : PcsAt T w [] (.slice none 0 0) [] := ⟨World.ownsRow_nil _ _ _ _, rfl, fun i p dv h => by simp at h⟩
theorem Fw.PcsAt.chg {B : Nat → Prop} (h : PcsAt T w ps lv dvs) (hc : Chg B w w') (h2 : ∀ k, lv.ownBlock = some k → ¬ B k) (h3 : ∀ (i : Nat) (dv : Value), dvs[i]? = some dv → ∀ k, dv.ownBlock = some k → ¬ B k) : PcsAt T w' ps lv dvs :=
  ⟨own_chg h.own hc h2, h.len, fun i p dv a b => own_chg (h.el i p dv a b) hc (h3 i dv b)⟩
theorem own_apartB2 {w : World} {b n size q : Nat} {e t : TypeId} {v : Value} {xs : List Value} {cs : Array Value} {fr : Nat × Nat} (h : w.ownsRow b e size v n xs) (hq : w.heap[q]? = some (.cells cs t fr)) (hne : t ≠ e) : ¬ v.ownBlock = some q := by
  intro hk
  obtain ⟨_, h | ⟨g, cap, cur, rfl, _, hh, _⟩⟩ := h
  · rw [h.1] at hk; cases hk
  · cases hk
    rw [hq] at hh
    injection hh with hh
    injection hh with _ hh _
    exact hne hh
theorem Fw.PcsAt.get (h : PcsAt T w ps lv dvs) (i : Nat) (p : Pc) (hp : ps[i]? = some p) : ∃ dv, dvs[i]? = some dv ∧ (ps.zip dvs)[i]? = some (p, dv) := by
  have hi : i < dvs.length := by rw [h.len]; exact (List.getElem?_eq_some_iff.1 hp).1
  refine ⟨dvs[i], List.getElem?_eq_getElem hi, ?_⟩
  rw [List.getElem?_zip_eq_some]
  exact ⟨hp, List.getElem?_eq_getElem hi⟩
/-- A change in one block of another type. -/
theorem Fw.PcsAt.set {q : Nat} {cs : Array Value} {t : TypeId} {fr : Nat × Nat} (h : PcsAt T w ps lv dvs) (hq : w.heap[q]? = some (.cells cs t fr)) (h1 : t ≠ T) (h2 : t ≠ 5) (hc : Chg (fun k => k = q) w w') : PcsAt T w' ps lv dvs :=
  h.chg hc (fun k hk e => by have e' : k = q := e; subst e'; exact own_apartB2 h.own hq h1 hk) (fun i dv hi k hk e => by
    have e' : k = q := e; subst e'
    have hl : i < ps.length := by rw [← h.len]; exact (List.getElem?_eq_some_iff.1 hi).1
    exact own_apartB2 (h.el i ps[i] dv (List.getElem?_eq_getElem hl) hi) hq h2 hk)
theorem Fw.PcsAt.zlen (h : PcsAt T w ps lv dvs) : (ps.zip dvs).length = ps.length := by rw [List.length_zip, h.len]; omega
theorem Fw.PcsAt.slice (h : PcsAt T w ps lv dvs) : SliceV w pcC lv (ps.zip dvs) := by
  have ho := h.own
  rw [← h.zlen] at ho
  exact SliceV.of_own (f := pcC) (k := 2) (by decide) pcC_len ho
theorem own_one' {w : World} {base : Nat} {e : TypeId} {size : Nat} {v : Value} {n : Nat} {xs : List Value} (h : w.ownsRow base e size v n xs) : v.oneCell' = true := by
  obtain ⟨a, c, rfl⟩ := own_shape h; rfl
theorem Fw.PcsAt.ones (h : PcsAt T w ps lv dvs) : ∀ v ∈ (ps.zip dvs).flatMap pcC, v.oneCell' = true := by
  intro v hv
  obtain ⟨x, hx, hv⟩ := List.mem_flatMap.1 hv
  obtain ⟨j, hj⟩ := List.mem_iff_getElem?.1 hx
  obtain ⟨h1, h2⟩ := List.getElem?_zip_eq_some.1 hj
  unfold pcC at hv
  rcases List.mem_cons.1 hv with rfl | hv
  · rfl
  · rw [List.mem_singleton.1 hv]; exact own_one' (h.el j _ _ h1 h2)
theorem Fw.SlAt.below (h : SlAt w p x lv dvs) (hb : Below w.heap.size w w') : SlAt w' p x lv dvs := ⟨blk_below h.blk hb, h.pcs.below hb, h.ok⟩
theorem Fw.SlAt.chg {B : Nat → Prop} (h : SlAt w p x lv dvs) (hc : Chg B w w') (h1 : ¬ B p) (h2 : ∀ k, lv.ownBlock = some k → ¬ B k) (h3 : ∀ (i : Nat) (dv : Value), dvs[i]? = some dv → ∀ k, dv.ownBlock = some k → ¬ B k) : SlAt w' p x lv dvs :=
  ⟨hc.blk h.blk h1, h.pcs.chg hc h2 h3, h.ok⟩
theorem Fw.SlAt.set {q : Nat} {cs : Array Value} {t : TypeId} {fr : Nat × Nat} (h : SlAt w p x lv dvs) (hq : w.heap[q]? = some (.cells cs t fr)) (h0 : t ≠ 74) (h1 : t ≠ 97) (h2 : t ≠ 5) (hc : Chg (fun k => k = q) w w') : SlAt w' p x lv dvs :=
  ⟨hc.blk h.blk (fun e => by have e' : p = q := e; subst e'; rw [h.blk] at hq; injection hq with hq; injection hq with _ hq _; exact h0 hq.symm), h.pcs.set hq h1 h2 hc, h.ok⟩
theorem Fw.SlAt.cn (h : SlAt w p x lv dvs) : w.cell? ⟨p, 0, none⟩ = some (.int .i64 x.c.n) := (cell_of_row _ _ 0 _ _ _ h.blk).trans rfl
theorem Fw.SlAt.cro (h : SlAt w p x lv dvs) : w.cell? ⟨p, 1, none⟩ = some (.bool x.c.ro) := (cell_of_row _ _ 1 _ _ _ h.blk).trans rfl
theorem Fw.SlAt.cmx (h : SlAt w p x lv dvs) : w.cell? ⟨p, 3, none⟩ = some (.int .i64 x.c.mx) := (cell_of_row _ _ 3 _ _ _ h.blk).trans rfl
theorem Fw.SlAt.cact (h : SlAt w p x lv dvs) : w.cell? ⟨p, 4, none⟩ = some (.int .i64 x.s.act) := (cell_of_row _ _ 4 _ _ _ h.blk).trans rfl
theorem Fw.SlAt.cnxt (h : SlAt w p x lv dvs) : w.cell? ⟨p, 5, none⟩ = some (.int .i64 x.s.nxt) := (cell_of_row _ _ 5 _ _ _ h.blk).trans rfl
theorem Fw.SlAt.crev (h : SlAt w p x lv dvs) (k : Nat) (r : Bs) (hr : x.s.revs[k]? = some r) : w.cell? ⟨p, 6 + k, none⟩ = some (.string (strOf r)) :=
  (cell_of_row _ _ (6 + k) _ _ _ h.blk).trans (by rw [List.getElem?_toArray]; exact St.cells_rev x lv k r hr)
theorem Fw.SlAt.cpc (h : SlAt w p x lv dvs) : w.cell? ⟨p, 13, none⟩ = some lv := (cell_of_row _ _ 13 _ _ _ h.blk).trans (by rw [List.getElem?_toArray]; exact St.cells_last x lv h.ok.len)
theorem Fw.SlAt.fz (h : SlAt w p x lv dvs) (j : Nat) : w.frozen? ⟨p, j, none⟩ = false := frozen_of_row _ _ j _ _ h.blk
end
set_option maxRecDepth 20000 in
set_option maxHeartbeats 1600000 in
theorem New_ok (c : Cfg) (w : World) (hR : c.R) (h : cfgOk c = true) :
    Calls Tryz.prog 10 #[.agg c.cells.toArray] w fun e w' => ∃ p, e = .returned (.tuple #[.pointer (some ⟨p, 0, none⟩), .int .i64 0]) ∧ SlAt w' p (Fw.new c) (.slice none 0 0) [] ∧ w.heap.size ≤ p ∧ Below w.heap.size w w' := by
  obtain ⟨o1, o2, o3, o4, o5, o6⟩ := cfgOk_is h
  have REV := Lib.hid (fun w => revision_at c.rev true w hR.2.1 o6)
  have OK := Lib.hid (Ok.new h)
  obtain ⟨n, ro, rev, mx⟩ := c
  have REV : Hid (∀ w, Calls Tryz.prog 28 #[.string (strOf rev)] w fun e w' => e = .returned (.bool true) ∧ Below w.heap.size w w') := REV
  have NEW := Lib.hid (show (St.cells (Fw.new ⟨n, ro, rev, mx⟩) (.slice none 0 0)).toArray = #[.int .i64 n, .bool ro, .string (strOf rev), .int .i64 mx, .int .i64 1, .int .i64 0, .string (strOf rev), .string ⟨#[]⟩, .string ⟨#[]⟩, .string ⟨#[]⟩, .string ⟨#[]⟩, .string ⟨#[]⟩, .string ⟨#[]⟩, .slice none 0 0] from rfl)
  have FIN := Lib.hid (fun (W2 : World) (q : Nat) (hq : W2.heap[q]? = some (.cells #[.int .i64 n, .bool ro, .string (strOf rev), .int .i64 mx, .int .i64 1, .int .i64 0, .string (strOf rev), .string ⟨#[]⟩, .string ⟨#[]⟩, .string ⟨#[]⟩, .string ⟨#[]⟩, .string ⟨#[]⟩, .string ⟨#[]⟩, .slice none 0 0] 74 (0, 0))) => (⟨by rw [NEW.out]; exact hq, PcsAt.nil _ _, OK.out⟩ : SlAt W2 q (Fw.new ⟨n, ro, rev, mx⟩) (.slice none 0 0) []))
  show Calls Tryz.prog 10 #[.agg #[.int .i64 n, .bool ro, .string (strOf rev), .int .i64 mx]] w _
  obtain ⟨st, hst⟩ : ∃ s, strOf rev = s := ⟨_, rfl⟩
  rw [hst] at REV FIN ⊢
  obtain ⟨W, hW⟩ : ∃ W, W = w.alloc (.cells #[.int .i64 n, .bool ro, .string st, .int .i64 mx] 23) := ⟨_, rfl⟩
  have D := Lib.hid (show Below w.heap.size w W by rw [hW]; exact gr_alloc w _)
  have X := Lib.hid (show W.heap[w.heap.size]? = some (.cells #[.int .i64 n, .bool ro, .string st, .int .i64 mx] 23 (0, 0)) by rw [hW]; exact heap_alloc_new w _)
  have HW := Lib.hid hW
  have c0 : W.cell? ⟨w.heap.size, 0, none⟩ = some (.int .i64 n) := (cell_of_row _ _ 0 _ _ _ X.out).trans rfl
  have c2 : W.cell? ⟨w.heap.size, 2, none⟩ = some (.string st) := (cell_of_row _ _ 2 _ _ _ X.out).trans rfl
  have c3 : W.cell? ⟨w.heap.size, 3, none⟩ = some (.int .i64 mx) := (cell_of_row _ _ 3 _ _ _ X.out).trans rfl
  have g1 : ¬ n < 1 := by have : 1 ≤ n := o1; omega
  have g2 : ¬ 7 < n := by have : n ≤ 7 := o2; omega
  have g3 : ¬ mx < 12 := by have : 12 ≤ mx := o3; omega
  have g4 : ¬ 1048576 < mx := by have : mx ≤ 1048576 := o4; omega
  have g5 : mx.tmod 4 = 0 := o5
  clear hW h hst hR o1 o2 o3 o4 o5 o6
  (go_enter Tryz.func10, Tryz.ntmps10; go_upto_region 1 with fail; rw [← HW.out])
  go_wp2_with (first
    | (go_at_call 28; go_loud (refine (REV.out _).mono ?_; rintro e w1 ⟨rfl, hb⟩; have D1 := Lib.hid (gr_tr D.out hb); have X1 := Lib.hid (blk_below X.out hb); have e2 : w1.cell? ⟨w.heap.size, 2, none⟩ = some (.string st) := (cell_of_row _ _ 2 _ _ _ X1.out).trans rfl; clear hb))
    | (refine wpList_load_row rfl 23 (.tmp 1) rfl w.heap.size rfl 23 #[.int .i64 n, .bool ro, .string st, .int .i64 mx] (0, 0) _ X1.out Tryz.underlying23 rfl (by kernel_rfl) ?_))
  go_ret2
  exact ⟨_, rfl, FIN.out _ _ (heap_alloc_new w1 _), D1.out.size, gr_tr D1.out (gr_alloc w1 _)⟩
end Go.Proofs.YtabfmhlhdebcpaaGreatDoor
namespace Go.Proofs.YtabfmhlhdebcpaaGreatDoor
open Go.RowKit Fw
set_option linter.unusedVariables false
set_option linter.unusedSimpArgs false
theorem none_at (p : Nat) (x : St) (lv : Value) (dvs : List Value) (w : World) (h : SlAt w p x lv dvs) :
    Calls Tryz.prog 40 #[.pointer (some ⟨p, 0, none⟩)] w fun e w' => e = .returned (.bool false) ∧ w = w' := by
  have c0 := h.cn
  have hn : (x.c.n == 0) = false := by have := (cfgOk_is h.ok.cfg).1; simp; omega
  obtain ⟨n, hn'⟩ : ∃ n, x.c.n = n := ⟨_, rfl⟩
  rw [hn'] at hn c0
  clear h hn'
  go_enter Tryz.func40, Tryz.ntmps40
  go_wp2
  go_ret
  exact ⟨rfl, rfl⟩
theorem none_nil (w : World) :
    Calls Tryz.prog 40 #[.pointer none] w fun e w' => e = .returned (.bool true) ∧ w = w' := by
  go_enter Tryz.func40, Tryz.ntmps40
  go_wp2
  go_ret
  exact ⟨rfl, rfl⟩
theorem none_zero (p : Nat) (w : World) (c0 : w.cell? ⟨p, 0, none⟩ = some (.int .i64 0)) :
    Calls Tryz.prog 40 #[.pointer (some ⟨p, 0, none⟩)] w fun e w' => e = .returned (.bool true) ∧ w = w' := by
  go_enter Tryz.func40, Tryz.ntmps40
  go_wp2
  go_ret
  exact ⟨rfl, rfl⟩
theorem writable_at (p : Nat) (x : St) (lv : Value) (dvs : List Value) (k : Int) (b : Bool) (w : World) (h : SlAt w p x lv dvs) (hb : wr x k = b) :
    Calls Tryz.prog 82 #[.pointer (some ⟨p, 0, none⟩), .int .i64 k] w fun e w' => e = .returned (.bool b) ∧ w = w' := by
  have c0 := h.cn
  have c1 := h.cro
  have c4 := h.cact
  unfold wr at hb
  obtain ⟨n, hn⟩ : ∃ n, x.c.n = n := ⟨_, rfl⟩
  obtain ⟨ro, hro⟩ : ∃ n, x.c.ro = n := ⟨_, rfl⟩
  obtain ⟨act, hact⟩ : ∃ n, x.s.act = n := ⟨_, rfl⟩
  rw [hn] at c0 hb
  rw [hro] at c1 hb
  rw [hact] at c4 hb
  clear h hn hro hact
  by_cases g1 : 1 ≤ k
  · by_cases g2 : k ≤ n
    · rw [decide_eq_true g1, decide_eq_true g2] at hb
      by_cases g3 : k = act
      · subst g3
        have hb2 : b = false := by rw [← hb]; simp
        subst hb2
        clear hb
        have g4 : (k != k) = false := by simp
        (go_enter Tryz.func82, Tryz.ntmps82; go_wp2; go_ret; exact ⟨rfl, rfl⟩)
      · have g4 : (k != act) = true := by simpa using g3
        have g5 : (k == act) = false := by simpa using g3
        rw [g5] at hb
        by_cases g6 : k = 1
        · subst g6
          have hb2 : b = !ro := by rw [← hb]; simp
          subst hb2
          clear hb
          cases ro <;> (go_enter Tryz.func82, Tryz.ntmps82; go_wp2; go_ret; exact ⟨rfl, rfl⟩)
        · have g7 : (k == 1) = false := by simpa using g6
          rw [g7] at hb
          have hb2 : b = true := by rw [← hb]; simp
          subst hb2
          clear hb
          (go_enter Tryz.func82, Tryz.ntmps82; go_wp2; go_ret; exact ⟨rfl, rfl⟩)
    · rw [decide_eq_false g2] at hb
      have hb2 : b = false := by rw [← hb]; simp
      subst hb2
      clear hb
      (go_enter Tryz.func82, Tryz.ntmps82; go_wp2; go_ret; exact ⟨rfl, rfl⟩)
  · rw [decide_eq_false g1] at hb
    have hb2 : b = false := by rw [← hb]; simp
    subst hb2
    clear hb
    (go_enter Tryz.func82, Tryz.ntmps82; go_wp2; go_ret; exact ⟨rfl, rfl⟩)
theorem filled_at (p : Nat) (x : St) (lv : Value) (dvs : List Value) (k : Int) (b : Bool) (w : World) (h : SlAt w p x lv dvs) (hb : fl x k = b) :
    Calls Tryz.prog 66 #[.pointer (some ⟨p, 0, none⟩), .int .i64 k] w fun e w' => e = .returned (.bool b) ∧ w = w' := by
  have c0 := h.cn
  have hn7 := (cfgOk_is h.ok.cfg).2.1
  have hl7 := h.ok.len
  unfold fl at hb
  by_cases g1 : 1 ≤ k
  · by_cases g2 : k ≤ x.c.n
    · obtain ⟨j, rfl⟩ : ∃ j : Nat, k = (j : Int) + 1 := ⟨(k - 1).toNat, by omega⟩
      have hj : j < 7 := by omega
      obtain ⟨r, hr⟩ : ∃ r, x.s.revs[j]? = some r := ⟨_, List.getElem?_eq_getElem (by omega)⟩
      have c6 := h.crev j r hr
      have hrev : revAt x ((j : Int) + 1) = r := by
        unfold revAt
        rw [show ((j : Int) + 1 - 1).toNat = j by omega, List.getD_eq_getElem?_getD, hr]; rfl
      rw [hrev, decide_eq_true g1, decide_eq_true g2] at hb
      have hemp := strOf_empty r
      obtain ⟨z, hz⟩ : ∃ z, (r == []) = z := ⟨_, rfl⟩
      rw [hz] at hb hemp
      obtain ⟨st, hst⟩ : ∃ s, strOf r = s := ⟨_, rfl⟩
      rw [hst] at c6 hemp
      obtain ⟨n, hn⟩ : ∃ n, x.c.n = n := ⟨_, rfl⟩
      rw [hn] at c0 g2 hn7
      have hb2 : b = !z := by rw [← hb]; simp
      subst hb2
      clear hb h hz hst hrev hr hn hl7
      cases z <;> (go_enter Tryz.func66, Tryz.ntmps66; go_wp2; go_ret; exact ⟨rfl, rfl⟩)
    · rw [decide_eq_false g2] at hb
      have hb2 : b = false := by rw [← hb]; simp
      subst hb2
      obtain ⟨n, hn⟩ : ∃ n, x.c.n = n := ⟨_, rfl⟩
      rw [hn] at c0 g2 hn7
      clear hb hn h hl7
      (go_enter Tryz.func66, Tryz.ntmps66; go_wp2; go_ret; exact ⟨rfl, rfl⟩)
  · rw [decide_eq_false g1] at hb
    have hb2 : b = false := by rw [← hb]; simp
    subst hb2
    clear hb h hl7
    (go_enter Tryz.func66, Tryz.ntmps66; go_wp2; go_ret; exact ⟨rfl, rfl⟩)
end Go.Proofs.YtabfmhlhdebcpaaGreatDoor
namespace Go.Proofs.YtabfmhlhdebcpaaGreatDoor
open Go.RowKit Fw
set_option linter.unusedVariables false
set_option linter.unusedSimpArgs false
theorem Fw.Stt.cells_len (s : Stt) (h : s.revs.length = 7) : s.cells.length = 9 := by unfold Stt.cells revC; simp [h]
theorem Fw.Stt.cells_one (s : Stt) : s.cells.toArray.all (·.oneCell') = true := by
  rw [Array.all_eq_true_iff_forall_mem]
  intro v hv
  unfold Stt.cells revC at hv
  simp at hv
  rcases hv with rfl | rfl | ⟨r, -, rfl⟩ <;> rfl
theorem Fw.SlAt.rs {w : World} {p : Nat} {x : St} {lv : Value} {dvs : List Value} (h : SlAt w p x lv dvs) : w.rangeAt p 4 x.s.cells :=
  rng_row (a := x.c.cells) (c := [lv]) h.blk rfl
set_option maxRecDepth 20000 in
theorem State_at (p : Nat) (x : St) (lv : Value) (dvs : List Value) (w : World) (h : SlAt w p x lv dvs) :
    Calls Tryz.prog 23 #[.pointer (some ⟨p, 0, none⟩)] w fun e w' => e = .returned (.agg x.s.cells.toArray) ∧ Below w.heap.size w w' := by
  have NON := Lib.hid (fun w h => none_at p x lv dvs w h)
  have SS := Lib.hid h
  have RNG := Lib.hid (fun (w : World) (h : SlAt w p x lv dvs) => h.rs)
  have CL := Lib.hid (Stt.cells_len x.s h.ok.len)
  have CO := Lib.hid (Stt.cells_one x.s)
  have SZ := Lib.hid (show x.s.cells.toArray.size = 9 by rw [List.size_toArray]; exact Stt.cells_len x.s h.ok.len)
  obtain ⟨cs, hcs⟩ : ∃ c, x.s.cells = c := ⟨_, rfl⟩
  rw [hcs] at RNG CL CO SZ ⊢
  obtain ⟨W, hW⟩ : ∃ W, W = w.alloc (.cells #[.int .i64 0, .int .i64 0, .string ⟨#[]⟩, .string ⟨#[]⟩, .string ⟨#[]⟩, .string ⟨#[]⟩, .string ⟨#[]⟩, .string ⟨#[]⟩, .string ⟨#[]⟩] 34) := ⟨_, rfl⟩
  have D := Lib.hid (show Below w.heap.size w W by rw [hW]; exact gr_alloc w _)
  have X := Lib.hid (show W.heap[w.heap.size]? = some (.cells #[.int .i64 0, .int .i64 0, .string ⟨#[]⟩, .string ⟨#[]⟩, .string ⟨#[]⟩, .string ⟨#[]⟩, .string ⟨#[]⟩, .string ⟨#[]⟩, .string ⟨#[]⟩] 34 (0, 0)) by rw [hW]; exact heap_alloc_new w _)
  have HW := Lib.hid hW
  have S1 := Lib.hid (h.below D.out)
  clear hW h hcs
  go_enter Tryz.func23, Tryz.ntmps23
  go_upto_region 1 with fail
  rw [← HW.out]
  go_wp2_with (first
    | (go_at_call 40; go_loud (refine (NON.out _ S1.out).mono ?_; rintro e w1 ⟨rfl, rfl⟩))
    | (refine wpList_load_mid rfl 34 (.tmp 8) rfl p 4 rfl cs _ (RNG.out _ S1.out) Tryz.underlying34 rfl (by rw [CL.out]; kernel_rfl) ?_)
    | (refine wpList_store_row rfl 34 (.tmp 2) (.tmp 9) rfl w.heap.size cs.toArray rfl rfl 34 _ X.out (by rw [SZ.out]; kernel_rfl) (by rw [SZ.out]; rfl) CO.out ?_))
  exact bodyPost_ret (results_cell_row rfl _ _ w.heap.size 34 _ (0, 0) _ rfl (setRow_heap _ _ _ _ _ _ X.out) Tryz.underlying34 rfl (by rw [SZ.out]; kernel_rfl)) rfl ⟨rfl, below_setRow D.out (Nat.le_refl _) _⟩
/-! Stores into the block. -/
section
variable {w : World} {p : Nat} {x : St} {lv : Value} {dvs : List Value}
theorem Fw.SlAt.pset (h : SlAt w p x lv dvs) (j : Nat) (v : Value) : PcsAt 97 (w.setCell ⟨p, j, none⟩ v) x.ps lv dvs :=
  h.pcs.set h.blk (by decide) (by decide) (Chg.setCell (B := fun k => k = p) (p := ⟨p, j, none⟩) w rfl v)
theorem Fw.SlAt.clear (h : SlAt w p x lv dvs) : SlAt (w.setCell ⟨p, 13, none⟩ (.slice none 0 0)) p { x with ps := [] } (.slice none 0 0) [] :=
  ⟨(heap_setCell_same w p 13 _ _ (.slice none 0 0) h.blk).trans (by rw [St.set_last x lv (.slice none 0 0) [] h.ok.len]), PcsAt.nil _ _, h.ok.empty⟩
theorem Fw.SlAt.setnxt (h : SlAt w p x lv dvs) (k : Int) (ho : Fw.Ok { x with s := { x.s with nxt := k } }) : SlAt (w.setCell ⟨p, 5, none⟩ (.int .i64 k)) p { x with s := { x.s with nxt := k } } lv dvs :=
  ⟨(heap_setCell_same w p 5 _ _ (.int .i64 k) h.blk).trans (by rw [St.set_nxt]), h.pset _ _, ho⟩
theorem Fw.SlAt.setact (h : SlAt w p x lv dvs) (k : Int) (ho : Fw.Ok { x with s := { x.s with act := k } }) : SlAt (w.setCell ⟨p, 4, none⟩ (.int .i64 k)) p { x with s := { x.s with act := k } } lv dvs :=
  ⟨(heap_setCell_same w p 4 _ _ (.int .i64 k) h.blk).trans (by rw [St.set_act]), h.pset _ _, ho⟩
end
theorem Fw.Ok.setAct {x : St} (h : Fw.Ok x) (k : Int) (h1 : 1 ≤ k) (h2 : k ≤ x.c.n) (h3 : revAt x k ≠ []) : Fw.Ok { x with s := { x.s with act := k } } :=
  ⟨h.cfg, h.len, h.short, ⟨h1, h2⟩, h.nxt, h3, h.there, h.kept, h.sep, h.top⟩
theorem Fw.Ok.setNxt {x : St} (h : Fw.Ok x) (k : Int) (h1 : 0 ≤ k) (h2 : k ≤ x.c.n) (h3 : k ≠ 0 → revAt x k ≠ []) : Fw.Ok { x with s := { x.s with nxt := k } } :=
  ⟨h.cfg, h.len, h.short, h.act, ⟨h1, h2⟩, h.here, h3, h.kept, h.sep, h.top⟩
theorem Fw.rsS_zero {x : St} (h : x.s.nxt = 0) : rsS x = { x with ps := [] } := by unfold rsS; rw [if_pos h]
theorem Fw.rsS_some {x : St} (h : x.s.nxt ≠ 0) : rsS x = { x with ps := [], s := { x.s with act := x.s.nxt, nxt := 0 } } := by unfold rsS; rw [if_neg h]
set_option maxRecDepth 20000 in
theorem Reset_at (p : Nat) (x : St) (lv : Value) (dvs : List Value) (w : World) (h : SlAt w p x lv dvs) :
    Calls Tryz.prog 24 #[.pointer (some ⟨p, 0, none⟩)] w fun e w' => e = .returned (.tuple #[.bool (rsB x), .int .i64 0]) ∧ SlAt w' p (rsS x) (.slice none 0 0) [] ∧ Chg (fun k => k = p) w w' := by
  have NON := Lib.hid (fun w h => none_at p x lv dvs w h)
  have SS := Lib.hid h
  have c13 := h.cpc
  have z13 := h.fz 13
  obtain ⟨W, hW⟩ : ∃ W, W = w.setCell ⟨p, 13, none⟩ (.slice none 0 0) := ⟨_, rfl⟩
  have S1 := Lib.hid (show SlAt W p { x with ps := [] } (.slice none 0 0) [] by rw [hW]; exact h.clear)
  have C1 := Lib.hid (show Chg (fun k => k = p) w W by rw [hW]; exact Chg.setCell (B := fun k => k = p) (p := ⟨p, 13, none⟩) w rfl _)
  have HW := Lib.hid hW
  have c4 := S1.out.cact
  have c5 := S1.out.cnxt
  have hc4 : W.cell? ⟨p, 4, none⟩ = some (.int .i64 x.s.act) := c4
  have hc5 : W.cell? ⟨p, 5, none⟩ = some (.int .i64 x.s.nxt) := c5
  have RB := Lib.hid (show rsB x = (!(x.s.nxt == 0) && !(x.s.nxt == x.s.act)) from rfl)
  have hsv : ∃ a c, lv = .slice a x.ps.length c := own_shape h.pcs.own
  clear c4 c5 h hW
  obtain ⟨al, cl, hlv⟩ := hsv
  obtain ⟨act, hact⟩ : ∃ n, x.s.act = n := ⟨_, rfl⟩
  obtain ⟨nxt, hnxt⟩ : ∃ n, x.s.nxt = n := ⟨_, rfl⟩
  have HA := Lib.hid hact; have HX := Lib.hid hnxt
  obtain ⟨rb, hrb⟩ : ∃ b, rsB x = b := ⟨_, rfl⟩
  rw [hact] at hc4 RB
  rw [hnxt] at hc5 RB
  rw [hrb] at RB ⊢
  clear hact hnxt hlv hrb
  go_enter Tryz.func24, Tryz.ntmps24
  go_upto_region 4 with (go_at_call 40; go_loud (refine (NON.out _ SS.out).mono ?_; rintro e w1 ⟨rfl, rfl⟩))
  rw [← HW.out]
  clear c13 z13
  by_cases hz : nxt = 0
  · subst hz
    go_quiet (fail)
    obtain ⟨W2, hW2⟩ : ∃ V, V = W.drewN nq := ⟨_, rfl⟩
    have D2 := Lib.hid (show Below W.heap.size W W2 by rw [hW2]; exact gr_drewN _ _)
    have e5 : W2.cell? ⟨p, 5, none⟩ = some (.int .i64 0) := below_cellE D2.out hc5
    rw [← hW2]
    clear hc4 hc5 hW2
    go_wp2
    go_ret2
    refine ⟨by rw [RB.out]; rfl, ?_, C1.out.trans (Chg.of_below D2.out)⟩
    rw [rsS_zero HX.out]
    exact S1.out.below D2.out
  · have hz2 : (nxt != 0) = true := by simpa using hz
    have hz3 : (nxt == 0) = false := by simpa using hz
    have HZ := Lib.hid hz
    clear hz
    go_quiet (fail)
    obtain ⟨W2, hW2⟩ : ∃ V, V = W.drewN nq := ⟨_, rfl⟩
    have D2 := Lib.hid (show Below W.heap.size W W2 by rw [hW2]; exact gr_drewN _ _)
    have e4 : W2.cell? ⟨p, 4, none⟩ = some (.int .i64 act) := below_cellE D2.out hc4
    have e5 : W2.cell? ⟨p, 5, none⟩ = some (.int .i64 nxt) := below_cellE D2.out hc5
    have S2 := Lib.hid (S1.out.below D2.out)
    have f4 := S2.out.fz 4
    have f5 := S2.out.fz 5
    rw [← hW2]
    clear hc4 hc5 hW2
    go_wp2
    go_ret2
    have hN := SS.out.ok.nxt
    have hT := SS.out.ok.there (by rw [HX.out]; exact HZ.out)
    rw [HX.out] at hN hT
    have a1 := S2.out.setact nxt (S2.out.ok.setAct nxt (by have := HZ.out; omega) hN.2 hT)
    have a2 := a1.setnxt 0 (a1.ok.setNxt 0 (Int.le_refl _) (by have := (cfgOk_is SS.out.ok.cfg).1; show (0 : Int) ≤ x.c.n; omega) (fun h => absurd rfl h))
    refine ⟨by rw [RB.out, hz3]; rfl, ?_, (C1.out.trans (Chg.of_below D2.out)).trans ((Chg.setCell (B := fun k => k = p) (p := ⟨p, 4, none⟩) _ rfl _).trans (Chg.setCell (B := fun k => k = p) (p := ⟨p, 5, none⟩) _ rfl _))⟩
    rw [rsS_some (by rw [HX.out]; exact HZ.out), HX.out]
    exact a2
end Go.Proofs.YtabfmhlhdebcpaaGreatDoor
namespace Go.Proofs.YtabfmhlhdebcpaaGreatDoor
open Go.RowKit Fw
set_option linter.unusedVariables false
set_option linter.unusedSimpArgs false
/-- How an action ends. -/
def ActPost (p : Nat) (c : Nat) (y : St) (w : World) (e : Ending) (w' : World) : Prop := ∃ lv dvs, e = .returned (.agg (stC c)) ∧ SlAt w' p y lv dvs ∧ Chg (fun k => k = p) w w'
theorem Fw.Kn.k262 : Kn 262 := .inr (.inr (.inr (.inl rfl)))
theorem Fw.Kn.k263 : Kn 263 := .inr (.inr (.inr (.inr (.inl rfl))))
theorem Fw.Kn.k276 : Kn 276 := .inr (.inr (.inr (.inr (.inr rfl))))
theorem Fw.Kn.k6 : Kn 6 := .inr (.inr (.inl rfl))
theorem Fw.Kn.k2 : Kn 2 := .inr (.inl rfl)
theorem Fw.Kn.k0 : Kn 0 := .inl rfl
theorem newer_chg {B : Nat → Prop} {w a b : World} (h : Chg B w a) {q : Nat} (hq : w.heap.size ≤ q) (hc : Chg (fun k => k = q) a b) : Chg B w b :=
  ⟨hc.os.trans h.os, hc.tape.trans h.tape, hc.output.trans h.output, Nat.le_trans h.size hc.size, fun k hk hn => (hc.block k (Nat.lt_of_lt_of_le hk h.size) (fun e => by have e' : k = q := e; omega)).trans (h.block k hk hn)⟩
set_option maxRecDepth 20000 in
theorem choose_at (p : Nat) (x : St) (lv : Value) (dvs : List Value) (k : Int) (w : World) (h : SlAt w p x lv dvs) :
    Calls Tryz.prog 48 #[.pointer (some ⟨p, 0, none⟩), .int .i64 k] w (ActPost p (if fl x k then 0 else 262) (if fl x k then { x with s := { x.s with nxt := k } } else x) w) := by
  obtain ⟨b, hb⟩ : ∃ b, fl x k = b := ⟨_, rfl⟩
  have FIL := Lib.hid (fun w h => filled_at p x lv dvs k b w h hb)
  obtain ⟨W, hW⟩ : ∃ W, W = w.alloc (.cells #[.int .u8 0, .int .u8 0, .bool false, .bool false] 56) := ⟨_, rfl⟩
  have D := Lib.hid (show Below w.heap.size w W by rw [hW]; exact gr_alloc w _)
  have X := Lib.hid (show W.heap[w.heap.size]? = some (.cells #[.int .u8 0, .int .u8 0, .bool false, .bool false] 56 (0, 0)) by rw [hW]; exact heap_alloc_new w _)
  have HW := Lib.hid hW
  have S1 := Lib.hid (h.below D.out)
  have PQ := Lib.hid (show p < w.heap.size from (Array.getElem?_eq_some_iff.1 h.blk).1)
  rw [hb]
  have HB := Lib.hid hb
  clear hW h hb
  cases b
  · rw [if_neg (by decide), if_neg (by decide)]
    go_enter Tryz.func48, Tryz.ntmps48
    go_upto_region 1 with fail
    rw [← HW.out]
    go_wp2_with (first
      | (go_at_call 66; go_loud (refine (FIL.out _ S1.out).mono ?_; rintro e w1 ⟨rfl, rfl⟩))
      | (go_at_call 41; go_loud (refine (status_at 262 _ Kn.k262).mono ?_; rintro e w1 ⟨rfl, hb⟩; have X1 := Lib.hid (blk_below X.out hb); have S2 := Lib.hid (S1.out.below hb); have D1 := Lib.hid (gr_tr D.out hb); clear hb))
      | (refine wpList_store_rowC rfl 56 (.tmp 4) (.tmp 9) rfl w.heap.size (stC 262) rfl rfl 56 _ X1.out (by kernel_rfl) rfl (stC_one _) ?_; intro w9 h9 hc; have X9 := Lib.hid h9; have C9 := Lib.hid hc; clear h9 hc))
    have SF := Lib.hid (S2.out.set X1.out (by decide) (by decide) (by decide) C9.out)
    have CF := Lib.hid (newer_chg (Chg.of_below (B := fun k => k = p) D1.out) (Nat.le_refl _) C9.out)
    (exact bodyPost_ret (results_cell_row rfl _ _ w.heap.size 56 _ (0, 0) _ rfl X9.out Tryz.underlying56 rfl (by kernel_rfl)) rfl ⟨_, _, rfl, SF.out, CF.out⟩)
  · rw [if_pos rfl, if_pos rfl]
    obtain ⟨f1, f2, f3⟩ := fl_is HB.out
    obtain ⟨W2, hW2⟩ : ∃ V, V = W.setCell ⟨p, 5, none⟩ (.int .i64 k) := ⟨_, rfl⟩
    have S2 := Lib.hid (show SlAt W2 p { x with s := { x.s with nxt := k } } lv dvs by rw [hW2]; exact S1.out.setnxt k (S1.out.ok.setNxt k (by omega) f2 (fun _ => f3)))
    have C2 := Lib.hid (show Chg (fun k => k = p) W W2 by rw [hW2]; exact Chg.setCell (B := fun k => k = p) (p := ⟨p, 5, none⟩) W rfl _)
    have X2 := Lib.hid (C2.out.blk X.out (fun e => by have e' : w.heap.size = p := e; have := PQ.out; omega))
    have HW2 := Lib.hid hW2
    have c5 := S1.out.cnxt
    have f5 := S1.out.fz 5
    clear hW2 f1 f2 f3
    go_enter Tryz.func48, Tryz.ntmps48
    go_upto_region 1 with fail
    rw [← HW.out]
    go_upto_region 4 with (go_at_call 66; go_loud (refine (FIL.out _ S1.out).mono ?_; rintro e w1 ⟨rfl, rfl⟩))
    rw [← HW2.out]
    clear c5 f5
    go_wp2_with (refine wpList_store_rowC rfl 56 (.tmp 4) (.tmp 15) rfl w.heap.size (stC 0) rfl rfl 56 _ X2.out (by kernel_rfl) rfl (stC_one _) ?_; intro w9 h9 hc; have X9 := Lib.hid h9; have C9 := Lib.hid hc; clear h9 hc)
    have SF := Lib.hid (S2.out.set X2.out (by decide) (by decide) (by decide) C9.out)
    have CF := Lib.hid (newer_chg ((Chg.of_below (B := fun k => k = p) D.out).trans C2.out) (Nat.le_refl _) C9.out)
    (exact bodyPost_ret (results_cell_row rfl _ _ w.heap.size 56 _ (0, 0) _ rfl X9.out Tryz.underlying56 rfl (by kernel_rfl)) rfl ⟨_, _, rfl, SF.out, CF.out⟩)
set_option maxRecDepth 20000 in
theorem activate_at (p : Nat) (x : St) (lv : Value) (dvs : List Value) (k : Int) (w : World) (h : SlAt w p x lv dvs) :
    Calls Tryz.prog 49 #[.pointer (some ⟨p, 0, none⟩), .int .i64 k] w (ActPost p (if fl x k then 0 else 262) (if fl x k then { x with s := { x.s with act := k, nxt := 0 } } else x) w) := by
  obtain ⟨b, hb⟩ : ∃ b, fl x k = b := ⟨_, rfl⟩
  have FIL := Lib.hid (fun w h => filled_at p x lv dvs k b w h hb)
  obtain ⟨W, hW⟩ : ∃ W, W = w.alloc (.cells #[.int .u8 0, .int .u8 0, .bool false, .bool false] 56) := ⟨_, rfl⟩
  have D := Lib.hid (show Below w.heap.size w W by rw [hW]; exact gr_alloc w _)
  have X := Lib.hid (show W.heap[w.heap.size]? = some (.cells #[.int .u8 0, .int .u8 0, .bool false, .bool false] 56 (0, 0)) by rw [hW]; exact heap_alloc_new w _)
  have HW := Lib.hid hW
  have S1 := Lib.hid (h.below D.out)
  have PQ := Lib.hid (show p < w.heap.size from (Array.getElem?_eq_some_iff.1 h.blk).1)
  rw [hb]
  have HB := Lib.hid hb
  clear hW h hb
  cases b
  · rw [if_neg (by decide), if_neg (by decide)]
    go_enter Tryz.func49, Tryz.ntmps49
    go_upto_region 1 with fail
    rw [← HW.out]
    go_wp2_with (first
      | (go_at_call 66; go_loud (refine (FIL.out _ S1.out).mono ?_; rintro e w1 ⟨rfl, rfl⟩))
      | (go_at_call 41; go_loud (refine (status_at 262 _ Kn.k262).mono ?_; rintro e w1 ⟨rfl, hb⟩; have X1 := Lib.hid (blk_below X.out hb); have S2 := Lib.hid (S1.out.below hb); have D1 := Lib.hid (gr_tr D.out hb); clear hb))
      | (refine wpList_store_rowC rfl 56 (.tmp 4) (.tmp 9) rfl w.heap.size (stC 262) rfl rfl 56 _ X1.out (by kernel_rfl) rfl (stC_one _) ?_; intro w9 h9 hc; have X9 := Lib.hid h9; have C9 := Lib.hid hc; clear h9 hc))
    have SF := Lib.hid (S2.out.set X1.out (by decide) (by decide) (by decide) C9.out)
    have CF := Lib.hid (newer_chg (Chg.of_below (B := fun k => k = p) D1.out) (Nat.le_refl _) C9.out)
    (exact bodyPost_ret (results_cell_row rfl _ _ w.heap.size 56 _ (0, 0) _ rfl X9.out Tryz.underlying56 rfl (by kernel_rfl)) rfl ⟨_, _, rfl, SF.out, CF.out⟩)
  · rw [if_pos rfl, if_pos rfl]
    obtain ⟨f1, f2, f3⟩ := fl_is HB.out
    obtain ⟨W2, hW2⟩ : ∃ V, V = (W.setCell ⟨p, 4, none⟩ (.int .i64 k)).setCell ⟨p, 5, none⟩ (.int .i64 0) := ⟨_, rfl⟩
    have a1 := S1.out.setact k (S1.out.ok.setAct k f1 f2 f3)
    have S2 := Lib.hid (show SlAt W2 p { x with s := { x.s with act := k, nxt := 0 } } lv dvs by rw [hW2]; exact a1.setnxt 0 (a1.ok.setNxt 0 (Int.le_refl _) (by have := (cfgOk_is S1.out.ok.cfg).1; show (0 : Int) ≤ x.c.n; omega) (fun h => absurd rfl h)))
    have C2 := Lib.hid (show Chg (fun k => k = p) W W2 by rw [hW2]; exact (Chg.setCell (B := fun k => k = p) (p := ⟨p, 4, none⟩) W rfl _).trans (Chg.setCell (B := fun k => k = p) (p := ⟨p, 5, none⟩) _ rfl _))
    have X2 := Lib.hid (C2.out.blk X.out (fun e => by have e' : w.heap.size = p := e; have := PQ.out; omega))
    have HW2 := Lib.hid hW2
    have c4 := S1.out.cact
    have f4 := S1.out.fz 4
    have c5 := S1.out.cnxt
    have f5 := S1.out.fz 5
    clear hW2 f1 f2 f3 a1
    go_enter Tryz.func49, Tryz.ntmps49
    go_upto_region 1 with fail
    rw [← HW.out]
    go_upto_region 4 with (go_at_call 66; go_loud (refine (FIL.out _ S1.out).mono ?_; rintro e w1 ⟨rfl, rfl⟩))
    rw [← HW2.out]
    clear c5 f5 c4 f4
    go_wp2_with (refine wpList_store_rowC rfl 56 (.tmp 4) (.tmp 19) rfl w.heap.size (stC 0) rfl rfl 56 _ X2.out (by kernel_rfl) rfl (stC_one _) ?_; intro w9 h9 hc; have X9 := Lib.hid h9; have C9 := Lib.hid hc; clear h9 hc)
    have SF := Lib.hid (S2.out.set X2.out (by decide) (by decide) (by decide) C9.out)
    have CF := Lib.hid (newer_chg ((Chg.of_below (B := fun k => k = p) D.out).trans C2.out) (Nat.le_refl _) C9.out)
    (exact bodyPost_ret (results_cell_row rfl _ _ w.heap.size 56 _ (0, 0) _ rfl X9.out Tryz.underlying56 rfl (by kernel_rfl)) rfl ⟨_, _, rfl, SF.out, CF.out⟩)
end Go.Proofs.YtabfmhlhdebcpaaGreatDoor
namespace Go.Proofs.YtabfmhlhdebcpaaGreatDoor
open Go.RowKit Fw
set_option linter.unusedVariables false
set_option linter.unusedSimpArgs false
theorem u64_ne (x : BitVec 64) (L : Nat) (h : L < 18446744073709551616) : (x != BitVec.ofNat 64 L) = !decide (uv x = (L : Int)) := by
  rw [bne]
  congr 1
  rw [Bool.eq_iff_iff, beq_iff_eq, decide_eq_true_eq]
  constructor
  · intro e; subst e; unfold uv; rw [BitVec.toNat_ofNat]; omega
  · intro e
    apply BitVec.eq_of_toNat_eq
    unfold uv at e
    rw [BitVec.toNat_ofNat]; omega
/-- What parsed gives back. -/
def ParsedPost (b : Bs) (w : World) (e : Ending) (w' : World) : Prop := ∃ s, e = .returned (.tuple #[.string (strOf s), .bool (imgIs b)]) ∧ (imgIs b = true → s = Wire.rstrip (b.take 8)) ∧ Below w.heap.size w w'
theorem imgIs_short {b : Bs} (h : ¬ 12 ≤ b.length) : imgIs b = false := by unfold imgIs; rw [decide_eq_false h]; rfl
theorem chg_fresh' {w a b : World} {p : Nat} (h : Below w.heap.size w a) (hp : w.heap.size ≤ p) (hc : Chg (fun k => k = p) a b) : Below w.heap.size w b :=
  h.trans (hc.below (fun k e => by have e' : k = p := e; omega) h.size)
theorem strOf_nil : strOf [] = ⟨#[]⟩ := rfl
set_option maxRecDepth 20000 in
set_option maxHeartbeats 1600000 in
theorem parsed_at (v : Value) (b : Bs) (w : World) (hv : BytesV w v b) (hl : b.length ≤ 1048576) :
    Calls Tryz.prog 83 #[v] w (ParsedPost b w) := by
  obtain ⟨a, c, rfl, -⟩ := id hv
  have V := Lib.hid hv; have HL := Lib.hid hl
  obtain ⟨n, hn⟩ : ∃ n, b.length = n := ⟨_, rfl⟩
  have HN := Lib.hid hn
  rw [hn] at V ⊢
  clear hv
  rw [hn] at hl
  by_cases g8 : 8 ≤ n
  · have H8 := Lib.hid (show 8 ≤ b.length by omega)
    by_cases g12 : 12 ≤ n
    · have H4 := Lib.hid (show 4 ≤ (b.drop 8).length by rw [List.length_drop]; omega)
      have HX := Lib.hid (show Wire.get ((b.drop 8).take 4) = rd4 b by unfold rd4; rw [List.drop_take])
      have hcmp := u64_ne (rd4 b) n (by omega)
      have HI := Lib.hid (show imgIs b = (decide (uv (rd4 b) = (n : Int)) && (Wire.plain (b.take 8) && revOk (Wire.rstrip (b.take 8)))) by unfold imgIs; rw [hn, decide_eq_true g12, Bool.true_and, Bool.and_assoc])
      obtain ⟨x, hx⟩ : ∃ x, rd4 b = x := ⟨_, rfl⟩
      rw [hx] at HX hcmp HI
      obtain ⟨bx, hbx⟩ : ∃ z, decide (uv x = (n : Int)) = z := ⟨_, rfl⟩
      rw [hbx] at hcmp HI
      obtain ⟨X, hX⟩ : ∃ z, uv x = z := ⟨_, rfl⟩
      obtain ⟨L, hL⟩ : ∃ z, BitVec.ofNat 64 n = z := ⟨_, rfl⟩
      have hT8 : (b.take 8).length = 8 := by rw [List.length_take]; omega
      have HT8 := Lib.hid hT8
      obtain ⟨bp, hbp⟩ : ∃ z, Wire.plain (b.take 8) = z := ⟨_, rfl⟩
      have TXT := Lib.hid (fun u w (h : w.ownsRow w.heap.size 5 1 u 8 (by8 (b.take 8)) ∨ BytesV w u (b.take 8)) => True.intro)
      have TX := Lib.hid (fun u w h => Text_at u (b.take 8) (if bp then Wire.rstrip (b.take 8) else []) (if bp then 0 else 2) w h (by omega) (by unfold Wire.textE; rw [hbp]) (by unfold Wire.text; rw [hbp]))
      obtain ⟨rb, hrb⟩ : ∃ z, revOk (Wire.rstrip (b.take 8)) = z := ⟨_, rfl⟩
      rw [hbp, hrb] at HI
      have REV := Lib.hid (fun w => revision_at (Wire.rstrip (b.take 8)) rb w (by have := rstrip_le (b.take 8); omega) hrb)
      clear hn hx hbx hX hL hbp hrb hT8 TXT
      cases bx
      · (go_enter Tryz.func83, Tryz.ntmps83)
        go_wp2_with (first | (go_at_call 97; go_loud (refine (NewReader_any _ b _ V.out (by have := HL.out; omega)).mono ?_; rintro e w1 ⟨p, rv, rfl, hp, hr, hb⟩; have P := Lib.hid hp; have R := Lib.hid hr; have D1 := Lib.hid hb; have PL := Lib.hid (show p < w1.heap.size from (Array.getElem?_eq_some_iff.1 hr.blk).1); clear hp hr hb)) | (go_at_call 98; go_loud (refine (Take_ok 181 p rv b 0 8 _ R.out H8.out (by have := HL.out; omega)).mono ?_; rintro e w2 ⟨u, rfl, hu, ⟨rv2, hr⟩, hc⟩; obtain ⟨au, cu, rfl⟩ := own_shape hu; have U := Lib.hid hu; have R2 := Lib.hid hr; have D2 := Lib.hid (chg_fresh' D1.out P.out hc); clear hu hr hc)) | (go_at_call 99; go_loud (refine (Next_ok p rv2 (b.drop 8) 8 4 x _ R2.out (by decide) (by decide) H4.out HX.out).mono ?_; rintro e w3 ⟨rfl, -, hc⟩; have D3 := Lib.hid (chg_fresh' D2.out P.out hc); have U3 := Lib.hid (own_chg U.out hc (fun g hg e => by have e' : g = p := e; have := (U.out.lt g hg).1; have := PL.out; omega)); clear hc)))
        go_ret2
        exact ⟨[], (by rw [HI.out]; rfl), fun h => (by rw [HI.out] at h; cases h), D3.out⟩
      · cases bp
        · (go_enter Tryz.func83, Tryz.ntmps83)
          go_wp2_with (first | (go_at_call 97; go_loud (refine (NewReader_any _ b _ V.out (by have := HL.out; omega)).mono ?_; rintro e w1 ⟨p, rv, rfl, hp, hr, hb⟩; have P := Lib.hid hp; have R := Lib.hid hr; have D1 := Lib.hid hb; have PL := Lib.hid (show p < w1.heap.size from (Array.getElem?_eq_some_iff.1 hr.blk).1); clear hp hr hb)) | (go_at_call 98; go_loud (refine (Take_ok 181 p rv b 0 8 _ R.out H8.out (by have := HL.out; omega)).mono ?_; rintro e w2 ⟨u, rfl, hu, ⟨rv2, hr⟩, hc⟩; obtain ⟨au, cu, rfl⟩ := own_shape hu; have U := Lib.hid hu; have R2 := Lib.hid hr; have D2 := Lib.hid (chg_fresh' D1.out P.out hc); clear hu hr hc)) | (go_at_call 99; go_loud (refine (Next_ok p rv2 (b.drop 8) 8 4 x _ R2.out (by decide) (by decide) H4.out HX.out).mono ?_; rintro e w3 ⟨rfl, -, hc⟩; have D3 := Lib.hid (chg_fresh' D2.out P.out hc); have U3 := Lib.hid (own_chg U.out hc (fun g hg e => by have e' : g = p := e; have := (U.out.lt g hg).1; have := PL.out; omega)); clear hc)) | (go_at_call 100; go_loud (refine (TX.out _ _ (BytesV.of_own (by rw [HT8.out]; exact U3.out))).mono ?_; rintro e w4 ⟨rfl, rfl⟩)))
          go_ret2
          exact ⟨[], (by rw [HI.out]; rfl), fun h => (by rw [HI.out] at h; cases h), D3.out⟩
        · (go_enter Tryz.func83, Tryz.ntmps83)
          go_wp2_with (first | (go_at_call 97; go_loud (refine (NewReader_any _ b _ V.out (by have := HL.out; omega)).mono ?_; rintro e w1 ⟨p, rv, rfl, hp, hr, hb⟩; have P := Lib.hid hp; have R := Lib.hid hr; have D1 := Lib.hid hb; have PL := Lib.hid (show p < w1.heap.size from (Array.getElem?_eq_some_iff.1 hr.blk).1); clear hp hr hb)) | (go_at_call 98; go_loud (refine (Take_ok 181 p rv b 0 8 _ R.out H8.out (by have := HL.out; omega)).mono ?_; rintro e w2 ⟨u, rfl, hu, ⟨rv2, hr⟩, hc⟩; obtain ⟨au, cu, rfl⟩ := own_shape hu; have U := Lib.hid hu; have R2 := Lib.hid hr; have D2 := Lib.hid (chg_fresh' D1.out P.out hc); clear hu hr hc)) | (go_at_call 99; go_loud (refine (Next_ok p rv2 (b.drop 8) 8 4 x _ R2.out (by decide) (by decide) H4.out HX.out).mono ?_; rintro e w3 ⟨rfl, -, hc⟩; have D3 := Lib.hid (chg_fresh' D2.out P.out hc); have U3 := Lib.hid (own_chg U.out hc (fun g hg e => by have e' : g = p := e; have := (U.out.lt g hg).1; have := PL.out; omega)); clear hc)) | (go_at_call 100; go_loud (refine (TX.out _ _ (BytesV.of_own (by rw [HT8.out]; exact U3.out))).mono ?_; rintro e w4 ⟨rfl, rfl⟩)) | (go_at_call 28; go_loud (refine (REV.out _).mono ?_; rintro e w4 ⟨rfl, hb⟩; have D4 := Lib.hid (gr_tr D3.out hb); clear hb)))
          go_ret2
          exact ⟨_, (by rw [HI.out]; rfl), fun h => rfl, D4.out⟩
    · have HI := Lib.hid (imgIs_short (b := b) (by omega))
      have TE := Lib.hid (show Wire.takeE (b.drop 8) 4 = 4 by unfold Wire.takeE; rw [if_neg (by omega), List.length_drop, if_pos (by omega)])
      clear hn
      (go_enter Tryz.func83, Tryz.ntmps83)
      go_wp2_with (first | (go_at_call 97; go_loud (refine (NewReader_any _ b _ V.out (by have := HL.out; omega)).mono ?_; rintro e w1 ⟨p, rv, rfl, hp, hr, hb⟩; have P := Lib.hid hp; have R := Lib.hid hr; have D1 := Lib.hid hb; have PL := Lib.hid (show p < w1.heap.size from (Array.getElem?_eq_some_iff.1 hr.blk).1); clear hp hr hb)) | (go_at_call 98; go_loud (refine (Take_ok 181 p rv b 0 8 _ R.out H8.out (by have := HL.out; omega)).mono ?_; rintro e w2 ⟨u, rfl, hu, ⟨rv2, hr⟩, hc⟩; obtain ⟨au, cu, rfl⟩ := own_shape hu; have U := Lib.hid hu; have R2 := Lib.hid hr; have D2 := Lib.hid (chg_fresh' D1.out P.out hc); clear hu hr hc)) | (go_at_call 99; go_loud (refine (Next_no p rv2 (b.drop 8) 8 4 4 _ R2.out TE.out (by decide)).mono ?_; rintro e w3 ⟨rfl, hb⟩; have D3 := Lib.hid (gr_tr D2.out hb); clear hb)))
      go_ret2
      exact ⟨[], (by rw [HI.out]; rfl), fun h => (by rw [HI.out] at h; cases h), D3.out⟩
  · have HI := Lib.hid (imgIs_short (b := b) (by omega))
    have CE := Lib.hid (show Wire.cutE b 8 = 4 by unfold Wire.cutE; rw [if_neg (by decide), if_pos (by omega)])
    by_cases g4 : 4 ≤ n
    · have H4 := Lib.hid (show 4 ≤ b.length by omega)
      obtain ⟨x, hx⟩ : ∃ x, Wire.get (b.take 4) = x := ⟨_, rfl⟩
      have HX := Lib.hid hx
      have hcmp := u64_ne x n (by omega)
      obtain ⟨bx, hbx⟩ : ∃ z, decide (uv x = (n : Int)) = z := ⟨_, rfl⟩
      rw [hbx] at hcmp
      have TX := Lib.hid (fun u w h => Text_at u [] [] 0 w h (by simp) (by rfl) (by rfl))
      have REV := Lib.hid (fun w => revision_at [] false w (by simp) rfl)
      rw [strOf_nil] at REV TX
      clear hn hx hbx
      cases bx
      · (go_enter Tryz.func83, Tryz.ntmps83)
        go_wp2_with (first | (go_at_call 97; go_loud (refine (NewReader_any _ b _ V.out (by have := HL.out; omega)).mono ?_; rintro e w1 ⟨p, rv, rfl, hp, hr, hb⟩; have P := Lib.hid hp; have R := Lib.hid hr; have D1 := Lib.hid hb; have PL := Lib.hid (show p < w1.heap.size from (Array.getElem?_eq_some_iff.1 hr.blk).1); clear hp hr hb)) | (go_at_call 98; go_loud (refine (Take_no 181 p rv b 0 8 4 _ R.out CE.out (by decide)).mono ?_; rintro e w2 ⟨u, rfl, hu, hb⟩; obtain ⟨au, cu, rfl, -⟩ := id hu; have U := Lib.hid hu; have R2 := Lib.hid (R.out.below hb); have D2 := Lib.hid (gr_tr D1.out hb); clear hu hb)) | (go_at_call 99; go_loud (refine (Next_ok p rv b 0 4 x _ R2.out (by decide) (by decide) H4.out HX.out).mono ?_; rintro e w3 ⟨rfl, -, hc⟩; have D3 := Lib.hid (chg_fresh' D2.out P.out hc); clear hc)))
        go_ret2
        exact ⟨[], (by rw [HI.out]; rfl), fun h => (by rw [HI.out] at h; cases h), D3.out⟩
      · have UE := Lib.hid (show ∀ (w2 w3 : World) (u : Value), BytesV w2 u [] → BytesV w3 u [] from fun w2 w3 u h => by obtain ⟨a, c, e, h0, h1, h2, h3⟩ := h; exact ⟨a, c, e, h0, h1, h2, .inl rfl⟩)
        (go_enter Tryz.func83, Tryz.ntmps83)
        go_wp2_with (first | (go_at_call 97; go_loud (refine (NewReader_any _ b _ V.out (by have := HL.out; omega)).mono ?_; rintro e w1 ⟨p, rv, rfl, hp, hr, hb⟩; have P := Lib.hid hp; have R := Lib.hid hr; have D1 := Lib.hid hb; have PL := Lib.hid (show p < w1.heap.size from (Array.getElem?_eq_some_iff.1 hr.blk).1); clear hp hr hb)) | (go_at_call 98; go_loud (refine (Take_no 181 p rv b 0 8 4 _ R.out CE.out (by decide)).mono ?_; rintro e w2 ⟨u, rfl, hu, hb⟩; obtain ⟨au, cu, rfl, -⟩ := id hu; have U := Lib.hid hu; have R2 := Lib.hid (R.out.below hb); have D2 := Lib.hid (gr_tr D1.out hb); clear hu hb)) | (go_at_call 99; go_loud (refine (Next_ok p rv b 0 4 x _ R2.out (by decide) (by decide) H4.out HX.out).mono ?_; rintro e w3 ⟨rfl, -, hc⟩; have D3 := Lib.hid (chg_fresh' D2.out P.out hc); clear hc)) | (go_at_call 100; go_loud (refine (TX.out _ _ (UE.out _ _ _ U.out)).mono ?_; rintro e w4 ⟨rfl, rfl⟩)) | (go_at_call 28; go_loud (refine (REV.out _).mono ?_; rintro e w4 ⟨rfl, hb⟩; have D4 := Lib.hid (gr_tr D3.out hb); clear hb)))
        go_ret2
        exact ⟨[], (by rw [HI.out]; rfl), fun h => (by rw [HI.out] at h; cases h), D4.out⟩
    · have TE := Lib.hid (show Wire.takeE b 4 = 4 by unfold Wire.takeE; rw [if_neg (by omega), if_pos (by omega)])
      clear hn
      (go_enter Tryz.func83, Tryz.ntmps83)
      go_wp2_with (first | (go_at_call 97; go_loud (refine (NewReader_any _ b _ V.out (by have := HL.out; omega)).mono ?_; rintro e w1 ⟨p, rv, rfl, hp, hr, hb⟩; have P := Lib.hid hp; have R := Lib.hid hr; have D1 := Lib.hid hb; have PL := Lib.hid (show p < w1.heap.size from (Array.getElem?_eq_some_iff.1 hr.blk).1); clear hp hr hb)) | (go_at_call 98; go_loud (refine (Take_no 181 p rv b 0 8 4 _ R.out CE.out (by decide)).mono ?_; rintro e w2 ⟨u, rfl, hu, hb⟩; obtain ⟨au, cu, rfl, -⟩ := id hu; have U := Lib.hid hu; have R2 := Lib.hid (R.out.below hb); have D2 := Lib.hid (gr_tr D1.out hb); clear hu hb)) | (go_at_call 99; go_loud (refine (Next_no p rv b 0 4 4 _ R2.out TE.out (by decide)).mono ?_; rintro e w3 ⟨rfl, hb⟩; have D3 := Lib.hid (gr_tr D2.out hb); clear hb)))
      go_ret2
      exact ⟨[], (by rw [HI.out]; rfl), fun h => (by rw [HI.out] at h; cases h), D3.out⟩
end Go.Proofs.YtabfmhlhdebcpaaGreatDoor
