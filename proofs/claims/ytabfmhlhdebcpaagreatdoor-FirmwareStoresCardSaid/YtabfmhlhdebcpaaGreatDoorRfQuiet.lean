/- In the round of a range over a function: a region whose order is open and that only reads. -/
import Derived.Test.YtabfmhlhdebcpaaGreatDoorRfJoin
import Derived.Sort.QuietTacIn
import Derived.Deep.MidRow
namespace Go.Proofs.YtabfmhlhdebcpaaGreatDoor
open Go.RowKit Go.Shelf
set_option linter.unusedVariables false
set_option linter.unusedSimpArgs false
section
variable {F : Fence} {n : Nat} {P : Program} {ops : Array Oper} {Q : Exit → Act → World → Prop} {md : Region.Mode} {C : World → Prop}
/-- No operation is a defer. -/
def noDefer (ops : List Oper) : Bool := ops.all fun o => match o.op with | .defer _ => false | _ => true
theorem noDefer_at {l : List Oper} (h : noDefer l = true) {i : Nat} {o : Oper} (ho : l.toArray[i]? = some o) : ∀ c, o.op ≠ .defer c := by
  intro c e
  have := List.all_eq_true.1 h o (List.mem_of_getElem? (by simpa using ho))
  rw [e] at this
  cases this
theorem opIn_round {o : Oper} {a : Act} {w : World} {K : Act → World → Prop} (l : Nat) (h : ∀ c, o.op ≠ .defer c) (hh : o.wpIn F n P a w K Q) : o.wpIn (F.inRound l) n P a w K Q := by
  unfold Oper.wpIn at *
  refine ⟨hh.1, ?_⟩
  have h2 := hh.2
  rw [Oper.semAt_eq F.round _ _ h] at h2
  rw [Oper.semAt_eq (F.inRound l).round _ _ h]
  exact h2
theorem anyIn_round (l : Nat) (hno : ∀ (i : Nat) (o : Oper), ops[i]? = some o → ∀ c, o.op ≠ .defer c) : ∀ (fuel : Nat) (listed : Array Bool) (a : Act) (w : World), wpAnyIn F n P md ops Q fuel listed a w → wpAnyIn (F.inRound l) n P md ops Q fuel listed a w
  | 0, _, _, _, h => h
  | fuel + 1, listed, a, w, h => ⟨h.1, fun i hi => by
    have h2 := h.2 i hi
    have h3 := wpOpIn_mono (fun a w h => anyIn_round l hno fuel _ a w h) h2
    revert h3
    unfold wpOpIn
    split
    · exact id
    · rename_i o ho
      split
      · exact fun h3 => opIn_round l (hno i o ho) h3
      · exact id⟩
/-- One walk of the lexical order serves every order, in a round. -/
theorem wpIn_region_quiet_round {id : Nat} {a : Act} {w : World} {l : List Oper} (r : Nat) (hro : F.round = none) (hm : P.follows .mixedOrders = true) (hB : (Region.lexB .any l.toArray && noDefer l) = true)
    (h : wpQuietIn F n P l.toArray (fun w' => ∃ n, w' = w.drewN n) (fun a' => ∀ w', (∃ n, w' = w.drewN n) → Q .normal a' w') l a) : (Code.region id l.toArray true).wpIn (F.inRound r) n P Q a w := by
  rw [Bool.and_eq_true] at hB
  obtain ⟨hB, hD⟩ := hB
  simp only [Region.lexB, Bool.and_eq_true] at hB
  refine wpIn_region_any hm (anyIn_round r (fun i o ho => noDefer_at hD ho) _ _ _ _ ?_)
  refine wpAnyIn_of_quiet (C := fun w' => ∃ n, w' = w.drewN n) (Q := fun a' => ∀ w', (∃ n, w' = w.drewN n) → Q .normal a' w') hro (fun _ w' hw' h => h w' hw') _ _ _ _ ⟨1, rfl⟩ ?_
  have := wpAnyQIn_lex (F := F) (n := n) (C := fun w' => ∃ n, w' = w.drewN n) (md := .any) hB.1 l.toArray.toList 0 (Array.replicate l.toArray.size false) a (by simp) (by simpa using hB.2) (by simpa using h)
  simpa using this
/-- A struct is loaded out of the middle of a row. -/
theorem wpQuietIn_load_mid {Q : Act → Prop} {a : Act} {o : Oper} {rest : List Oper} (hw : Region.wanted o (yielded ops a.tmps) = true) (ty : TypeId) (x : Operand) (ho : o.op = .load ty x)
    (b off : Nat) (hx : a.eval x = .pointer (some ⟨b, off, none⟩)) (cs : List Value) (d : TypeDesc) (hc : ∀ w, C w → w.rangeAt b off cs)
    (hu : P.underlying ty = some d) (hd : d.isRow = true) (hi : (P.info? ty).map (·.size) = some cs.length)
    (h : wpQuietIn F n P ops C Q rest (a.put o.dst (.agg cs.toArray))) : wpQuietIn F n P ops C Q (o :: rest) a := by
  refine ⟨?_, ?_⟩
  · intro w _ f hf
    simp [Oper.about, ho] at hf
  · rw [if_pos hw]
    refine ⟨.agg cs.toArray, fun w hw' => ?_, h⟩
    unfold Oper.quietAtIn execOp
    simp only [ho, hx, run_loadAt_mid w b off ty cs d (hc w hw') hu hd hi, Sem.run_bind, Sem.run_pure, Result.andThen_ok]
    exact ⟨rfl, rfl⟩
end
end Go.Proofs.YtabfmhlhdebcpaaGreatDoor
