/- A region whose order is open, by a plan: what yields its value in every world of a class comes first; what changes the world comes when nothing else can. One walk of the plan serves every order. -/
import Derived.Test.YtabfmhlhdebcpaaGreatDoorRegion
import Derived.OrdersHeld
namespace Go.Proofs.YtabfmhlhdebcpaaGreatDoor
open Go.RowKit
set_option linter.unusedVariables false
set_option linter.unusedSimpArgs false

section
variable {P : Program} {ops : Array Oper} {Q : Exit → Act → World → Prop} {S : World → Prop}
/-- The walk of a plan: (true, i): operation i yields its value in every world of the class; (false, i): operation i as it is, behind it the class is shown anew. -/
def wpS (P : Program) (ops : Array Oper) (Q : Exit → Act → World → Prop) (S : World → Prop) : List (Bool × Nat) → Act → World → Prop
  | [], a, w => Q .normal a w
  | (true, i) :: r, a, w => ∃ o, ops[i]? = some o ∧ if Region.wanted o (yielded ops a.tmps) then ∃ v, (∀ x, S x → (execOp a.eval o).run P x = .ok (.value v) x) ∧ wpS P ops Q S r (a.put o.dst v) w else wpS P ops Q S r (a.put o.dst undef) w
  | (false, i) :: r, a, w => wpOp P ops Q i (fun a' w' => S w' ∧ wpS P ops Q S r a' w') a w
def planB (ops : Array Oper) : List (Bool × Nat) → Array Bool → Bool
  | [], listed => (Region.ready .any ops listed).isEmpty
  | (true, i) :: r, listed => (Region.ready .any ops listed).contains i && Region.free .any ops listed i && planB ops r (listed.setIfInBounds i true)
  | (false, i) :: r, listed => (Region.ready .any ops listed == [i]) && planB ops r (listed.setIfInBounds i true)
theorem wpAnyH_plan (hs : Region.noSelect ops = true) (hQ : ∀ c (a : Act) (d : Option Tmp) v w, Q (.panic c) (a.put d v) w → Q (.panic c) a w) :
    ∀ (plan : List (Bool × Nat)) (listed : Array Bool) (a : Act) (w : World), planB ops plan listed = true → S w → wpS P ops Q S plan a w → wpAnyH P .any ops Q S plan.length listed a w
  | [], listed, a, w, hB, hS, h => ⟨by simpa [planB] using hB, h⟩
  | (true, i) :: r, listed, a, w, hB, hS, h => by
    simp only [planB, Bool.and_eq_true] at hB
    obtain ⟨⟨hr, hf⟩, hB'⟩ := hB
    obtain ⟨o, ho, h⟩ := h
    by_cases hw : Region.wanted o (yielded ops a.tmps) = true
    · rw [if_pos hw] at h
      obtain ⟨v, hv, h⟩ := h
      exact wpAnyH_take ho hs hf hr (fun c a w => hQ c a _ _ w) (.inl ⟨hw, hv⟩) hS (wpAnyH_plan hs hQ r _ _ _ hB' hS h)
    · rw [if_neg hw] at h
      exact wpAnyH_take ho hs hf hr (fun c a w => hQ c a _ _ w) (.inr ⟨by simpa using hw, rfl⟩) hS (wpAnyH_plan hs hQ r _ _ _ hB' hS h)
  | (false, i) :: r, listed, a, w, hB, hS, h => by
    simp only [planB, Bool.and_eq_true, beq_iff_eq] at hB
    obtain ⟨hr, hB'⟩ := hB
    refine wpAnyH_all hr (by simp) fun j hj => ?_
    obtain rfl : j = i := by simpa using hj
    refine wpOp_mono (fun a' w' ⟨hS', h'⟩ => ⟨hS', wpAnyH_plan hs hQ r _ _ _ hB' hS' h'⟩) h
theorem wp_region_plan {id : Nat} {a : Act} {w : World} {l : List Oper} (S : World → Prop) (plan : List (Bool × Nat)) (hm : P.follows .mixedOrders = true)
    (hB : (Region.noSelect l.toArray && planB l.toArray plan (Array.replicate l.toArray.size false) && (plan.length == l.toArray.size)) = true)
    (hQ : ∀ c (a : Act) (d : Option Tmp) v w, Q (.panic c) (a.put d v) w → Q (.panic c) a w) (hS : S w.drew)
    (h : wpS P l.toArray Q S plan a w.drew) : (Code.region id l.toArray true).wp P Q a w := by
  simp only [Bool.and_eq_true, beq_iff_eq] at hB
  refine wp_region_held (S := S) hm ?_
  have := wpAnyH_plan hB.1.1 hQ plan _ a w.drew hB.1.2 hS h
  rw [hB.2] at this
  exact this

/-- One firm operation, what follows behind a variable. -/
theorem wpS_firm {a : Act} {w : World} {i : Nat} {r : List (Bool × Nat)} {o : Oper} (ho : ops[i]? = some o)
    (h : ∀ K : Act → Prop, (∀ a, wpS P ops Q S r a w → K a) → if Region.wanted o (yielded ops a.tmps) then ∃ v, (∀ x, S x → (execOp a.eval o).run P x = .ok (.value v) x) ∧ K (a.put o.dst v) else K (a.put o.dst undef)) :
    wpS P ops Q S ((true, i) :: r) a w := ⟨o, ho, h _ (fun _ h => h)⟩
theorem wp_post {o : Oper} {a : Act} {w : World} {K N : Act → World → Prop} (h : o.wp P a w N (Exit.then K Q)) : o.wp P a w N Q := by
  unfold Oper.wp at *
  generalize (execOp a.eval o).run P w = r at *
  cases r with
  | ok n w' => cases n <;> exact h
  | halt x w' => cases x <;> exact h
/-- One operation that changes the world, as a list of its own. -/
theorem wpS_chain {a : Act} {w : World} {i : Nat} {r : List (Bool × Nat)} {o : Oper} (ho : ops[i]? = some o)
    (h : wpList P ops (Exit.then (fun a' w' => S w' ∧ wpS P ops Q S r a' w') Q) [o] a w) : wpS P ops Q S ((false, i) :: r) a w := by
  unfold wpS wpOp
  rw [ho]
  unfold wpList at h
  simp only
  have hK : wpList P ops (Exit.then (fun a' w' => S w' ∧ wpS P ops Q S r a' w') Q) [] = fun a' w' => S w' ∧ wpS P ops Q S r a' w' := rfl
  rw [hK] at h
  split
  · rename_i hw
    rw [if_pos hw] at h
    rcases h with h | ⟨h1, a0, w0, h2⟩
    · exact .inl (wp_post h)
    · exact .inr ⟨h1, a0, w0, h2⟩
  · rename_i hw
    rw [if_neg hw] at h
    exact h
end

/-! the class: all that was there is as it was, but for the blocks of B -/
structure KeepT (B : Nat → Prop) (w : World) where
  val : World
  size : w.heap.size ≤ val.heap.size
  block : ∀ k, k < w.heap.size → ¬ B k → val.heap[k]? = w.heap[k]?
instance (B : Nat → Prop) (w : World) : Nonempty (KeepT B w) := ⟨⟨w, Nat.le_refl _, fun _ _ _ => rfl⟩⟩
def Keep (B : Nat → Prop) (w x : World) : Prop := ∃ y : KeepT B w, x = y.val
theorem Keep.start (B : Nat → Prop) (w : World) : Keep B w w.drew := ⟨⟨w.drew, Nat.le_refl _, fun _ _ _ => rfl⟩, rfl⟩
theorem Keep.below {B : Nat → Prop} {w x x' : World} (h : Keep B w x) (hb : Below x.heap.size x x') : Keep B w x' := by
  obtain ⟨y, rfl⟩ := h
  exact ⟨⟨x', Nat.le_trans y.size hb.size, fun k hk hn => (hb.block k (Nat.lt_of_lt_of_le hk y.size)).trans (y.block k hk hn)⟩, rfl⟩
theorem Keep.alloc {B : Nat → Prop} {w x : World} (h : Keep B w x) (o : Obj) : Keep B w (x.alloc o) := h.below (gr_alloc x o)
theorem Keep.put {B : Nat → Prop} {w x : World} (h : Keep B w x) {p : Addr} (hp : B p.block) (v : Value) : Keep B w (x.setCell p v) := by
  obtain ⟨y, rfl⟩ := h
  refine ⟨⟨y.val.setCell p v, by simpa [World.setCell] using y.size, fun k hk hn => ?_⟩, rfl⟩
  rw [Below.heap_setCell _ _ _ _ (fun e => hn (by rw [e]; exact hp))]
  exact y.block k hk hn
theorem Keep.row {B : Nat → Prop} {w x : World} (h : Keep B w x) {g : Nat} (hp : B g) (cs : Array Value) : Keep B w (x.setRow g cs) := by
  obtain ⟨y, rfl⟩ := h
  refine ⟨⟨y.val.setRow g cs, by simpa using y.size, fun k hk hn => ?_⟩, rfl⟩
  rw [setRow_other _ _ _ _ (fun e => hn (by rw [e]; exact hp))]
  exact y.block k hk hn
theorem KeepT.cell {B : Nat → Prop} {w : World} (y : KeepT B w) {b o : Nat} {v : Value} (h : w.cell? ⟨b, o, none⟩ = some v) (hn : ¬ B b) : y.val.cell? ⟨b, o, none⟩ = some v := by
  rw [World.cell?_of_block (w := w) (y.block b (block_lt_of_cell h) hn)]; exact h
def nowhere : Nat → Prop := fun _ => False
end Go.Proofs.YtabfmhlhdebcpaaGreatDoor
