/- A region whose order is open, where calls make memory of their own: one walk of the order of the text. The worlds that may come up: whatever holds all that was there. -/
import Derived.Test.YtabfmhlhdebcpaaGreatDoorMem
import Derived.Deep.QuietTactic
import Derived.BigQuiet
namespace Go.Proofs.YtabfmhlhdebcpaaGreatDoor
open Go.RowKit
set_option linter.unusedVariables false
set_option linter.unusedSimpArgs false

/-- A world in which all of w is as it was. -/
structure ExtT (w : World) where
  val : World
  ok : Below w.heap.size w val
instance (w : World) : Nonempty (ExtT w) := ⟨⟨w, Below.refl _ _⟩⟩
theorem wp_region_ext {P : Program} {id : Nat} {Q : Exit → Act → World → Prop} {a : Act} {w : World} {l : List Oper} (hm : P.follows .mixedOrders = true) (hB : Region.lexB .any l.toArray = true)
    (h : wpQuiet P l.toArray (fun w' => ∃ x : ExtT w, w' = x.val) (fun a' => ∀ w', (∃ x : ExtT w, w' = x.val) → Q .normal a' w') l a) : (Code.region id l.toArray true).wp P Q a w :=
  wp_region_quiet (C := fun w' => ∃ x : ExtT w, w' = x.val) hm hB ⟨⟨w.drew, gr_drew w⟩, rfl⟩ (by simpa using h)
/-- A scope out of which the run jumps forward to one label, in one state. -/
theorem wp_scope_forward {P : Program} {Q : Exit → Act → World → Prop} {a : Act} {w : World} {c rest : Code} (l : Nat) (hf : findLabel c l = some rest)
    (h : ∃ A W, c.wp P (Exit.jump l (fun a' w' => a' = A ∧ w' = W) Q) a w ∧ rest.wp P (Exit.noGoto Q) A W) : (Code.scope c).wp P Q a w := by
  obtain ⟨A, W, h1, h2⟩ := h
  refine wp_scope_jumps l (fun a' w' => a' = A ∧ w' = W) (fun _ _ => 0) hf h1 ?_
  rintro a' w' ⟨rfl, rfl⟩
  exact Code.wp_mono (fun e a w q => by cases e <;> first | exact q | exact q.elim) h2
theorem ext_out {w w' : World} (h : ∃ x : ExtT w, w' = x.val) : Below w.heap.size w w' := by obtain ⟨x, rfl⟩ := h; exact x.ok
theorem Calls.ext_of {P : Program} {f : FuncId} {args : Array Value} {w : World} {x : ExtT w} {v : Value}
    (h : Calls P f args x.val fun e w' => e = .returned v ∧ Below x.val.heap.size x.val w') : Calls P f args x.val fun e w'' => e = .returned v ∧ ∃ y : ExtT w, w'' = y.val :=
  h.mono fun _ w' ⟨he, hm⟩ => ⟨he, ⟨w', gr_tr x.ok hm⟩, rfl⟩
theorem Calls.ext_same {P : Program} {f : FuncId} {args : Array Value} {w : World} {x : ExtT w} {v : Value}
    (h : Calls P f args x.val fun e w' => e = .returned v ∧ x.val = w') : Calls P f args x.val fun e w'' => e = .returned v ∧ ∃ y : ExtT w, w'' = y.val :=
  h.mono fun _ w' ⟨he, hm⟩ => ⟨he, x, hm.symm⟩
theorem BytesV.ext {w : World} {v : Value} {l : List (BitVec 8)} (h : BytesV w v l) (x : ExtT w) : BytesV x.val v l := h.below x.ok
theorem PartsV.ext {w : World} {v : Value} {ls : List (List (BitVec 8))} (h : PartsV w v ls) (x : ExtT w) : PartsV x.val v ls := h.below x.ok

section
variable {P : Program} {T E : TypeId} {w : World} {v : Value} {l : List (BitVec 8)}
theorem BytesV.cut (ht : P.underlying T = some (.slice E)) (hs : (P.info? E).map (·.size) = some 1) (h : BytesV w v l) (lo hi : Nat) (h1 : lo ≤ hi) (h2 : hi ≤ l.length) :
    ∃ u, BytesV w u ((l.take hi).drop lo) ∧ (∀ w', (Instr.slice T v (some (.int .i64 lo)) (some (.int .i64 hi)) none).run P w' = .ok u w') ∧ (lo = 0 → ∀ w', (Instr.slice T v none (some (.int .i64 hi)) none).run P w' = .ok u w') := by
  obtain ⟨a, c, rfl, h0, hl, hc, hr⟩ := h
  have he : P.elem T = E := by simp [Program.elem, ht]
  have ht' : P.underlying T = some (.slice (P.elem T)) := by rw [he]; exact ht
  have hz : ∀ w', (sizeOf (P.elem T)).run P w' = .ok 1 w' := fun w' => by
    rw [he]
    obtain ⟨i, hi, hi'⟩ := Option.map_eq_some_iff.1 hs
    simp [sizeOf, typeInfo, hi, hi']
  have hlen : ((l.take hi).drop lo).length = hi - lo := by simp; omega
  refine ⟨.slice (if c = lo then a else a.map (·.add (lo * 1))) (hi - lo) (c - lo), ⟨_, c - lo, by rw [hlen], ?_, by omega, by omega, ?_⟩, fun w' => ?_, fun h0 w' => ?_⟩
  · intro hn
    split at hn
    · omega
    · rw [Option.map_eq_none_iff] at hn; have := h0 hn; omega
  · by_cases e : hi = lo
    · subst e; rw [show (l.take hi).drop hi = [] from List.length_eq_zero_iff.1 (by rw [hlen]; omega)]; exact .inl rfl
    · rw [if_neg (by omega)]
      rcases hr with h | ⟨b, o, rfl, h⟩
      · have : l = [] := by simpa [by8] using h
        subst this; simp at h2; omega
      · have hr' : Row w (some ⟨b, o, none⟩) (by8 l) := .inr ⟨b, o, rfl, h⟩
        have := (hr'.take hi).drop lo
        simp only [Option.map_some, Nat.mul_one, Addr.add]
        have e2 : by8 ((l.take hi).drop lo) = ((by8 l).take hi).drop lo := by simp [by8]
        rw [e2]
        split
        · rename_i h0; subst h0; simpa using this
        · exact this
  · rw [run_slice_lh w' T a l.length c ht' .i64 .i64 lo hi (by omega) (by omega) (by omega), hz]
    simp [Result.andThen, sliced]
  · subst h0
    rw [run_slice_h w' T a l.length c ht' .i64 hi (by omega) (by omega), hz]
    simp [Result.andThen, sliced]
theorem BytesV.cut3 {P : Program} {T E : TypeId} {w : World} {v : Value} {l : List (BitVec 8)} (ht : P.underlying T = some (.slice E)) (hs : (P.info? E).map (·.size) = some 1) (h : BytesV w v l) (lo hi m : Nat) (h1 : lo ≤ hi) (h2 : hi ≤ m) (h3 : m ≤ l.length) :
    ∃ u, BytesV w u ((l.take hi).drop lo) ∧ (∀ w', (Instr.slice T v (some (.int .i64 lo)) (some (.int .i64 hi)) (some (.int .i64 m))).run P w' = .ok u w') ∧ (lo = 0 → ∀ w', (Instr.slice T v none (some (.int .i64 hi)) (some (.int .i64 m))).run P w' = .ok u w') := by
  obtain ⟨a, c, rfl, h0, hl, hc, hr⟩ := h
  have he : P.elem T = E := by simp [Program.elem, ht]
  have ht' : P.underlying T = some (.slice (P.elem T)) := by rw [he]; exact ht
  have hz : ∀ w', (sizeOf (P.elem T)).run P w' = .ok 1 w' := fun w' => by
    rw [he]
    obtain ⟨i, hi, hi'⟩ := Option.map_eq_some_iff.1 hs
    simp [sizeOf, typeInfo, hi, hi']
  have hlen : ((l.take hi).drop lo).length = hi - lo := by simp; omega
  refine ⟨.slice (if m = lo then a else a.map (·.add (lo * 1))) (hi - lo) (m - lo), ⟨_, m - lo, by rw [hlen], ?_, by omega, by omega, ?_⟩, fun w' => ?_, fun h0 w' => ?_⟩
  · intro hn
    split at hn
    · omega
    · rw [Option.map_eq_none_iff] at hn; have := h0 hn; omega
  · by_cases e : hi = lo
    · subst e; rw [show (l.take hi).drop hi = [] from List.length_eq_zero_iff.1 (by rw [hlen]; omega)]; exact .inl rfl
    · rw [if_neg (by omega)]
      rcases hr with h | ⟨b, o, rfl, h⟩
      · have : l = [] := by simpa [by8] using h
        subst this; simp at h3; omega
      · have hr' : Row w (some ⟨b, o, none⟩) (by8 l) := .inr ⟨b, o, rfl, h⟩
        have := (hr'.take hi).drop lo
        simp only [Option.map_some, Nat.mul_one, Addr.add]
        have e2 : by8 ((l.take hi).drop lo) = ((by8 l).take hi).drop lo := by simp [by8]
        rw [e2]
        split
        · rename_i h0; subst h0; simpa using this
        · exact this
  · rw [run_slice_lhm w' T a l.length c ht' .i64 .i64 .i64 lo hi m (by omega) (by omega) (by omega) (by omega), hz]
    simp [Result.andThen, sliced]
  · subst h0
    have := run_slice_hm w' T a l.length c ht' .i64 .i64 hi m (by omega) (by omega) (by omega)
    rw [this, hz]
    simp [Result.andThen, sliced]
theorem BytesV.cutl {P : Program} {T E : TypeId} {w : World} {v : Value} {l : List (BitVec 8)} (ht : P.underlying T = some (.slice E)) (hs : (P.info? E).map (·.size) = some 1) (h : BytesV w v l) (lo : Nat) (h1 : lo ≤ l.length) :
    ∃ u, BytesV w u (l.drop lo) ∧ (∀ w', (Instr.slice T v (some (.int .i64 lo)) none none).run P w' = .ok u w') := by
  obtain ⟨a, c, rfl, h0, hl, hc, hr⟩ := h
  have he : P.elem T = E := by simp [Program.elem, ht]
  have ht' : P.underlying T = some (.slice (P.elem T)) := by rw [he]; exact ht
  have hz : ∀ w', (sizeOf (P.elem T)).run P w' = .ok 1 w' := fun w' => by
    rw [he]
    obtain ⟨i, hi, hi'⟩ := Option.map_eq_some_iff.1 hs
    simp [sizeOf, typeInfo, hi, hi']
  have hlen : (l.drop lo).length = l.length - lo := by simp
  refine ⟨.slice (if c = lo then a else a.map (·.add (lo * 1))) (l.length - lo) (c - lo), ⟨_, c - lo, by rw [hlen], ?_, by omega, by omega, ?_⟩, fun w' => ?_⟩
  · intro hn
    split at hn
    · omega
    · rw [Option.map_eq_none_iff] at hn; have := h0 hn; omega
  · by_cases e : l.length = lo
    · rw [show l.drop lo = [] from List.length_eq_zero_iff.1 (by rw [hlen]; omega)]; exact .inl rfl
    · rw [if_neg (by omega)]
      rcases hr with h | ⟨b, o, rfl, h⟩
      · have : l = [] := by simpa [by8] using h
        subst this; simp at h1 e; omega
      · have hr' : Row w (some ⟨b, o, none⟩) (by8 l) := .inr ⟨b, o, rfl, h⟩
        have := hr'.drop lo
        simp only [Option.map_some, Nat.mul_one, Addr.add]
        have e2 : by8 (l.drop lo) = (by8 l).drop lo := by simp [by8]
        rw [e2]
        split
        · rename_i h0; subst h0; simpa using this
        · exact this
  · rw [run_slice_l w' T a l.length c ht' .i64 lo (by omega) (by omega), hz]
    simp [Result.andThen, sliced]
/-- 's[:0]', and any cut at the front alone: the address stays. -/
theorem run_slice_front {P : Program} {T E : TypeId} (ht : P.underlying T = some (.slice E)) (hs : (P.info? E).map (·.size) = some 1) (a : Option Addr) (n c h : Nat) (hh : h ≤ c) (w : World) :
    (Instr.slice T (.slice a n c) none (some (.int .i64 h)) none).run P w = .ok (.slice a h c) w := by
  have he : P.elem T = E := by simp [Program.elem, ht]
  have ht' : P.underlying T = some (.slice (P.elem T)) := by rw [he]; exact ht
  have hz : (sizeOf (P.elem T)).run P w = .ok 1 w := by
    rw [he]
    obtain ⟨i, hi, hi'⟩ := Option.map_eq_some_iff.1 hs
    simp [sizeOf, typeInfo, hi, hi']
  rw [run_slice_h w T a n c ht' .i64 h (by omega) (by omega), hz]
  have e : a.map (fun x => x.add (0 * 1)) = a := by cases a <;> simp [Addr.add]
  simp only [Result.andThen, sliced, e]
  simp
end
end Go.Proofs.YtabfmhlhdebcpaaGreatDoor
