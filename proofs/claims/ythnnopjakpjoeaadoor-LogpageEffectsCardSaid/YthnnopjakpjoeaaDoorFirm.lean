/- The quiet operations at the head of a long drawn region (moves, nil checks, addresses of fields), run at once by the kernel. -/
import Derived.Test.YthnnopjakpjoeaaDoorPlan
namespace Go.Proofs.YthnnopjakpjoeaaDoor
open Go.RowKit
set_option linter.unusedVariables false
set_option linter.unusedSimpArgs false
/-- The fields of struct type s lie at these offsets, none of them without cells. -/
def offOk (P : Program) (s : TypeId) (offs : List Nat) : Bool :=
  match P.underlying s with
  | some (.struct fs) => (List.range offs.length).all fun f => match fs[f]?, offs[f]? with
    | some fd, some n => fd.offset == n && (match P.info? fd.type with | some i => i.size != 0 | none => false)
    | _, _ => false
  | _ => false
theorem run_field_off {P : Program} {s : TypeId} {offs : List Nat} (h : offOk P s offs = true) {f n : Nat} (hf : offs[f]? = some n) (ad : Addr) (w : World) :
    (Instr.fieldAt s (.pointer (some ad)) f).run P w = .ok (.pointer (some (ad.add n))) w := by
  unfold offOk at h
  cases hu : P.underlying s with
  | none => simp [hu] at h
  | some d =>
    cases d <;> simp only [hu] at h <;> try (simp at h; done)
    rename_i fs
    have hlt : f < offs.length := (List.getElem?_eq_some_iff.1 hf).1
    have h2 := List.all_eq_true.1 h f (List.mem_range.2 hlt)
    rw [hf] at h2
    cases hfd : fs[f]? with
    | none => rw [hfd] at h2; simp at h2
    | some fd =>
      rw [hfd] at h2
      simp only [Bool.and_eq_true, beq_iff_eq] at h2
      obtain ⟨ho, hi⟩ := h2
      cases hinfo : P.info? fd.type with
      | none => rw [hinfo] at hi; simp at hi
      | some i =>
        rw [hinfo] at hi
        have hz : i.size ≠ 0 := by simpa using hi
        simp [Instr.fieldAt, run_underlying hu, hfd, Instr.sureAddr, fieldPlace, sizeOf, typeInfo, hinfo, hz, ho]
def firmVal (s0 : TypeId) (offs : List Nat) (a : Act) (o : Oper) : Option Value :=
  match o.guard with
  | some _ => none
  | none => match o.op with
    | .move x => some (a.eval x)
    | .assign x => some (a.eval x)
    | .nilCheck x => match a.eval x with
      | .pointer (some ad) => some (.pointer (some ad))
      | _ => none
    | .fieldAddr s x f => if s = s0 then (match offs[f]?, a.eval x with
      | some n, .pointer (some ad) => some (.pointer (some (ad.add n)))
      | _, _ => none) else none
    | _ => none
theorem firmVal_run {P : Program} {s0 : TypeId} {offs : List Nat} (h : offOk P s0 offs = true) {a : Act} {o : Oper} {v : Value} (hv : firmVal s0 offs a o = some v) :
    o.guard = none ∧ ∀ w, (execOp a.eval o).run P w = .ok (.value v) w := by
  unfold firmVal at hv
  cases hg : o.guard with
  | some g => rw [hg] at hv; cases hv
  | none =>
    rw [hg] at hv
    refine ⟨rfl, fun w => ?_⟩
    dsimp only at hv
    cases ho : o.op <;> rw [ho] at hv <;> dsimp only at hv <;> try (simp at hv; done)
    · rename_i x
      simp only [Option.some.injEq] at hv
      subst hv; simp [execOp, ho]
    · rename_i x
      simp only [Option.some.injEq] at hv
      subst hv; simp [execOp, ho]
    · rename_i x
      cases hx : a.eval x <;> rw [hx] at hv <;> try (simp at hv; done)
      rename_i p
      cases p with
      | none => simp at hv
      | some ad => simp at hv; subst hv; simp [execOp, ho, hx]
    · rename_i s x f
      split at hv
      · rename_i hs
        subst hs
        cases hn : offs[f]? with
        | none => rw [hn] at hv; simp at hv
        | some n =>
          rw [hn] at hv
          cases hx : a.eval x <;> rw [hx] at hv <;> try (simp at hv; done)
          rename_i p
          cases p with
          | none => simp at hv
          | some ad => simp at hv; subst hv; simp [execOp, ho, hx, run_field_off h hn]
      · cases hv
def firmRun (s0 : TypeId) (offs : List Nat) (ops : Array Oper) : List Nat → Act → Option Act
  | [], a => some a
  | i :: is, a => match ops[i]? with
    | some o => match firmVal s0 offs a o with
      | some v => firmRun s0 offs ops is (a.put o.dst v)
      | none => none
    | none => none
theorem wpS_run {P : Program} {ops : Array Oper} {Q : Exit → Act → World → Prop} {S : World → Prop} {r : List (Bool × Nat)} {w : World} (s0 : TypeId) (offs : List Nat) (hs : offOk P s0 offs = true) (is : List Nat) (a a' : Act)
    (hr : firmRun s0 offs ops is a = some a') (h : wpS P ops Q S r a' w) : wpS P ops Q S (is.map (fun i => (true, i)) ++ r) a w := by
  induction is generalizing a with
  | nil => simp only [firmRun, Option.some.injEq] at hr; subst hr; exact h
  | cons i is ih =>
    unfold firmRun at hr
    cases ho : ops[i]? with
    | none => rw [ho] at hr; cases hr
    | some o =>
      rw [ho] at hr
      cases hv : firmVal s0 offs a o with
      | none => simp [hv] at hr
      | some v =>
        simp only [hv] at hr
        obtain ⟨hg, hrun⟩ := firmVal_run hs hv
        refine ⟨o, ho, ?_⟩
        rw [if_pos (by unfold Region.wanted; rw [hg])]
        exact ⟨v, fun x _ => hrun x, ih _ hr⟩
end Go.Proofs.YthnnopjakpjoeaaDoor
