/- What decodes: the plain law, what is laid is read back, bytes.Equal. -/
import Derived.Test.YthnnopjakpjoeaaDoorIdE
import Derived.Test.YthnnopjakpjoeaaDoorIdLoad
namespace Go.Proofs.YthnnopjakpjoeaaDoor
open Go.RowKit Idn
set_option linter.unusedVariables false
set_option linter.unusedSimpArgs false
theorem Equal_any (v u : Value) (l m : List (BitVec 8)) (w : World) (hv : BytesV w v l) (hu : BytesV w u m) :
    Calls Tryd.prog 128 #[v, u] w fun e w' => e = .returned (.bool (l == m)) ∧ w = w' := by
  have h1 := run_string hv
  have h2 := run_string hu
  have h3 := strOf_beq l m
  obtain ⟨a, c, rfl, _, _, _, _⟩ := hv
  obtain ⟨a', c', rfl, _, _, _, _⟩ := hu
  go_enter Tryd.func128, Tryd.ntmps128
  go_wp2
  go_ret
  exact ⟨rfl, rfl⟩
theorem Equal_at (v u : Value) (l m : List (BitVec 8)) (b : Bool) (w : World) (hv : BytesV w v l) (hu : BytesV w u m) (hb : (l == m) = b) :
    Calls Tryd.prog 128 #[v, u] w fun e w' => e = .returned (.bool b) ∧ w = w' := by
  subst hb; exact Equal_any v u l m w hv hu
theorem slice_lt {w : World} {v : Value} {l : List (BitVec 8)} (h : BytesV w v l) (hl : 0 < l.length) : ∀ g o n c, v = .slice (some ⟨g, o, none⟩) n c → g < w.heap.size := by
  intro g o n c e
  obtain ⟨a, c', e2, -, -, -, hr⟩ := h
  rw [e] at e2
  injection e2 with e3 e4 e5
  subst e3
  exact hr.lt (by intro hn; have h9 := congrArg List.length hn; rw [by8_length, List.length_nil] at h9; omega)
section
theorem wpS_load_row {P : Program} {ops : Array Oper} {Q : Exit → Act → World → Prop} {S : World → Prop} {a : Act} {w : World} {i : Nat} {r : List (Bool × Nat)} {o : Oper} (ho : ops[i]? = some o) (hw : Region.wanted o (yielded ops a.tmps) = true) (ty : TypeId) (x : Operand) (hop : o.op = .load ty x)
    (g : Nat) (hx : a.eval x = .pointer (some ⟨g, 0, none⟩)) (t : TypeId) (cs : Array Value) (fr : Nat × Nat) (d : TypeDesc) (hg : ∀ x, S x → x.heap[g]? = some (.cells cs t fr))
    (hu : P.underlying ty = some d) (hd : (match d with | .struct _ | .array _ _ => true | _ => false) = true) (hi : (P.info? ty).map (·.size) = some cs.size)
    (h : wpS P ops Q S r (a.put o.dst (.agg cs)) w) : wpS P ops Q S ((true, i) :: r) a w := by
  refine ⟨o, ho, ?_⟩
  rw [if_pos hw]
  refine ⟨.agg cs, fun x hS => ?_, h⟩
  unfold execOp
  simp only [hop, hx, Instr.loadAt, Instr.sureAddr, Sem.run_bind, Sem.run_pure, Result.andThen_ok, run_loadVar_row x g t ty cs fr d (hg x hS) hu hd hi]
theorem Keep.blk {w x : World} {g : Nat} {o : Obj} (h : Keep nowhere w x) (hg : w.heap[g]? = some o) : x.heap[g]? = some o := by
  obtain ⟨y, rfl⟩ := h
  exact (y.block g (Array.getElem?_eq_some_iff.1 hg).1 id).trans hg
end
namespace Lay
theorem lays_read {α : Type} {ps : List (Nat × List α)} : ∀ {l : List α}, (∀ r ∈ ps, r.1 + r.2.length ≤ l.length) → ps.Pairwise (fun a b => a.1 + a.2.length ≤ b.1 ∨ b.1 + b.2.length ≤ a.1) → ∀ q ∈ ps, ((lays l ps).drop q.1).take q.2.length = q.2 := by
  induction ps with
  | nil => intro l _ _ q hq; simp at hq
  | cons p ps ih =>
    intro l h hd q hq
    have h1 := h p (by simp)
    have h2 : (lay l p.1 p.2).length = l.length := lay_len h1
    rw [List.pairwise_cons] at hd
    show ((lays (lay l p.1 p.2) ps).drop q.1).take q.2.length = q.2
    rcases List.mem_cons.1 hq with rfl | hq
    · rw [lays_other (fun r hr => by rw [h2]; exact h r (by simp [hr])) (fun r hr => hd.1 r hr), lay_read h1]
    · exact ih (fun r hr => by rw [h2]; exact h r (by simp [hr])) hd.2 q hq
end Lay
namespace Idn
/-- A block's cells when its fields have been read, by the places' keys alone. -/
def readS (l : List (BitVec 8)) (C : Array Value) (sp : Spec) : Array Value := sp.foldl (fun c s => c.setIfInBounds s.2.2 (s.2.1.val (Wire.getV (cutL l s.1 s.2.1.size)))) C
theorem readC_key {l : List (BitVec 8)} {C : Array Value} {ps : List Pl} {sp : Spec} (h : ps.map key = sp) : readC l C ps = readS l C sp := by
  subst h
  unfold readC readS
  rw [List.foldl_map]; rfl
/-- The fields do not meet. -/
def apartB : Spec → Bool
  | [] => true
  | s :: sp => (sp.all fun t => decide (s.1 + s.2.1.size ≤ t.1) || decide (t.1 + t.2.1.size ≤ s.1)) && apartB sp
theorem fsOf_apart : ∀ (sp : Spec) (vs : List (BitVec 64)), apartB sp = true → (fsOf sp vs).Pairwise (fun a b => a.1 + a.2.length ≤ b.1 ∨ b.1 + b.2.length ≤ a.1) := by
  intro sp
  induction sp with
  | nil => intro vs _; unfold fsOf; simp
  | cons s sp ih =>
    intro vs h
    cases vs with
    | nil => unfold fsOf; simp
    | cons v vs =>
      simp only [apartB, Bool.and_eq_true, List.all_eq_true] at h
      unfold fsOf
      rw [List.zip_cons_cons, List.map_cons, List.pairwise_cons]
      refine ⟨fun b hb => ?_, ih vs h.2⟩
      obtain ⟨⟨t, u⟩, ht, rfl⟩ := List.mem_map.1 hb
      have := h.1 t (List.of_mem_zip ht).1
      simp only [Wire.le_len]
      simpa using this
/-- The number that was laid is read. -/
theorem rd_back {sp : Spec} {vs : List (BitVec 64)} (ha : apartB sp = true) (hin : ∀ q ∈ fsOf sp vs, q.1 + q.2.length ≤ zeros.length) {s : Nat × Kd × Nat} {v : BitVec 64} (hm : (s, v) ∈ sp.zip vs) (ht : s.2.1.trunc v = v) :
    Wire.getV (cutL (Lay.lays zeros (fsOf sp vs)) s.1 s.2.1.size) = v := by
  have hq : (s.1, Wire.le v s.2.1.size) ∈ fsOf sp vs := by
    unfold fsOf; exact List.mem_map.2 ⟨(s, v), hm, rfl⟩
  have h := Lay.lays_read hin (fsOf_apart sp vs ha) _ hq
  simp only [Wire.le_len] at h
  have h1 := s.2.1.size_pos
  unfold cutL
  rw [h]
  have hE : Wire.getE (Wire.le v s.2.1.size) = 0 := by unfold Wire.getE; rw [Wire.le_len, if_neg (by omega)]
  unfold Wire.getV
  rw [if_pos hE]
  exact Wire.get_le v _ h1.2 (fun h => trunc_fits _ v ht h)
theorem fit_all {w : World} {base X n : Nat} {ps : List Pl} {sp : Spec} (h : ps.map key = sp) (hs : (sp.all fun s => decide (s.2.2 < n) && decide (s.1 + s.2.1.size ≤ 4096)) = true) (hp : PsOk w base X ps) (hX : X < base) : ∀ q ∈ ps, Fit w X n q := by
  intro q hq
  obtain ⟨h1, h2, h3⟩ := hp q hq
  have hm : key q ∈ sp := by rw [← h]; exact List.mem_map_of_mem hq
  have := List.all_eq_true.1 hs _ hm
  simp only [Bool.and_eq_true, decide_eq_true_eq] at this
  exact ⟨h1, h3, by omega, this.1, this.2⟩
/-- What a structure of 4096 bytes decodes to. -/
def decV {α : Type} (rd : List (BitVec 8) → α) (ok : α → Bool) (enc : α → List (BitVec 8)) (z : α) (l : List (BitVec 8)) : α × Int :=
  if l.length < 4096 then (z, 4) else if 4096 < l.length then (z, 5) else if ok (rd l) && (enc (rd l) == l) then (rd l, 0) else (z, 6)
theorem decV_eq {α : Type} (rd1 rd2 : List (BitVec 8) → α) (ok : α → Bool) (enc : α → List (BitVec 8)) (z : α) (good : α → Prop) (g1 : ∀ l, good (rd1 l)) (g2 : ∀ l, good (rd2 l))
    (h1 : ∀ x, good x → ok x = true → rd1 (enc x) = x) (h2 : ∀ x, good x → ok x = true → rd2 (enc x) = x) (l : List (BitVec 8)) : decV rd1 ok enc z l = decV rd2 ok enc z l := by
  unfold decV
  have key : ∀ (ra rb : List (BitVec 8) → α), (∀ x, good x → ok x = true → rb (enc x) = x) → good (ra l) → (ok (ra l) && (enc (ra l) == l)) = true → rb l = ra l := by
    intro ra rb hb hg ht
    rw [Bool.and_eq_true] at ht
    have e : enc (ra l) = l := by simpa using ht.2
    have := hb (ra l) hg ht.1
    rw [e] at this; exact this
  by_cases c1 : (ok (rd1 l) && (enc (rd1 l) == l)) = true
  · rw [key rd1 rd2 h2 (g1 l) c1]
  · by_cases c2 : (ok (rd2 l) && (enc (rd2 l) == l)) = true
    · rw [key rd2 rd1 h1 (g2 l) c2]
    · rw [if_neg c1, if_neg c2]
/-- What was encoded is decoded. -/
theorem decV_enc {α : Type} {rd : List (BitVec 8) → α} {ok : α → Bool} {enc : α → List (BitVec 8)} {z x : α} (hr : rd (enc x) = x) (hl : (enc x).length = 4096) (ho : ok x = true) : decV rd ok enc z (enc x) = (x, 0) := by
  unfold decV
  rw [if_neg (by omega), if_neg (by omega), hr, ho]; simp
end Idn
end Go.Proofs.YthnnopjakpjoeaaDoor
