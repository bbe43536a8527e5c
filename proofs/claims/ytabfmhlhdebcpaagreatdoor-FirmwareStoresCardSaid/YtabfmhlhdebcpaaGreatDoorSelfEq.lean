/- A value is equal to itself: structs and arrays of numbers, bools and strings. -/
import Derived.Test.YtabfmhlhdebcpaaGreatDoorBase
import Derived.ChangeKeysEq
import Derived.Laws.StructEq
namespace Go.Proofs.YtabfmhlhdebcpaaGreatDoor
open Go.RowKit
set_option linter.unusedVariables false
set_option linter.unusedSimpArgs false
/-- What lies at an offset is equal to itself. -/
def SelfAt (P : Program) (d : Nat) (t : TypeId) (xs : Array Value) (off : Nat) : Prop := ∃ v, (∀ w, (part t xs off).run P w = .ok v w) ∧ ∀ w, (Op.equalIn d t v v).run P w = .ok true w
section
variable {P : Program}
theorem self_fields (d : Nat) (xs : Array Value) : ∀ fs : List Field, (∀ f ∈ fs, SelfAt P d f.type xs f.offset) → ∀ w, (Op.eqFields d xs xs fs).run P w = .ok true w
  | [], _, w => by simp [Op.eqFields]
  | f :: fs, h, w => by
    obtain ⟨v, h1, h2⟩ := h f (by simp)
    have ih := self_fields d xs fs (fun g hg => h g (by simp [hg])) w
    unfold Op.eqFields
    split
    · simp [Sem.run_bind, h1, h2, ih]
    · exact ih
theorem self_items (d : Nat) (e : TypeId) (c : Nat) (xs : Array Value) : ∀ is : List Nat, (∀ i ∈ is, SelfAt P d e xs (i * c)) → ∀ w, (Op.eqItems d e c xs xs is).run P w = .ok true w
  | [], _, w => by simp [Op.eqItems]
  | i :: is, h, w => by
    obtain ⟨v, h1, h2⟩ := h i (by simp)
    have ih := self_items d e c xs is (fun g hg => h g (by simp [hg])) w
    unfold Op.eqItems
    simp [Sem.run_bind, h1, h2, ih]
theorem self_struct {d : Nat} {t : TypeId} {xs : Array Value} (ht : P.underlying t = some (.struct (P.fieldsOf t))) (hp : P.stoodInHeld t = false) (h : ∀ f ∈ (P.fieldsOf t).toList, SelfAt P d f.type xs f.offset) (w : World) :
    (Op.equalIn (d + 1) t (.agg xs) (.agg xs)).run P w = .ok true w := by
  rw [run_equalIn_struct w d t xs xs ht hp]; exact self_fields d xs _ h w
theorem self_array {d : Nat} {t e : TypeId} {n c : Nat} {xs : Array Value} (hu : P.underlying t = some (.array n e)) (hi : (P.info? e).isSome = true) (hc : P.cellsOf e = c) (h : ∀ i, i < n → SelfAt P d e xs (i * c)) (w : World) :
    (Op.equalIn (d + 1) t (.agg xs) (.agg xs)).run P w = .ok true w := by
  obtain ⟨i, hi⟩ := Option.isSome_iff_exists.1 hi
  subst hc
  rw [run_equalIn_array w d xs xs hu hi]; exact self_items d e _ xs _ (fun i hm => h i (by simpa using hm)) w
theorem selfAt_int {d : Nat} {t : TypeId} {k : IntKind} {xs : Array Value} {off : Nat} {a : Int} (hu : P.underlying t = some (.int k)) (hx : xs[off]? = some (.int k a)) : SelfAt P (d + 1) t xs off :=
  ⟨.int k a, fun w => by simp [part, isAgg, run_underlying hu, hx], fun w => by rw [run_equalIn_int w d t k k a a hu]; simp⟩
theorem selfAt_bool {d : Nat} {t : TypeId} {xs : Array Value} {off : Nat} {a : Bool} (hu : P.underlying t = some .bool) (hx : xs[off]? = some (.bool a)) : SelfAt P (d + 1) t xs off :=
  ⟨.bool a, fun w => by simp [part, isAgg, run_underlying hu, hx], fun w => by rw [run_equalIn_bool' w d t a a hu]; simp⟩
theorem selfAt_str {d : Nat} {t : TypeId} {xs : Array Value} {off : Nat} {a : ByteArray} (hu : P.underlying t = some .string) (hx : xs[off]? = some (.string a)) : SelfAt P (d + 1) t xs off :=
  ⟨.string a, fun w => by simp [part, isAgg, run_underlying hu, hx], fun w => by rw [run_equalIn_string w d t a a hu]; simp⟩
theorem selfAt_arr {d : Nat} {t e : TypeId} {n c m : Nat} {xs : Array Value} {off : Nat} (hu : P.underlying t = some (.array n e)) (ht : (P.info? t).isSome = true) (hm : P.cellsOf t = m) (hi : (P.info? e).isSome = true) (hc : P.cellsOf e = c)
    (h : ∀ i, i < n → SelfAt P d e (xs.extract off (off + m)) (i * c)) : SelfAt P (d + 1) t xs off := by
  obtain ⟨i, hti⟩ := Option.isSome_iff_exists.1 ht
  refine ⟨.agg (xs.extract off (off + m)), fun w => ?_, fun w => self_array hu hi hc h w⟩
  simp [part, isAgg, run_underlying hu, run_sizeOf w hti, hm]
theorem selfAt_struct {d : Nat} {t : TypeId} {m : Nat} {xs : Array Value} {off : Nat} (hu : P.underlying t = some (.struct (P.fieldsOf t))) (hp : P.stoodInHeld t = false) (ht : (P.info? t).isSome = true) (hm : P.cellsOf t = m)
    (h : ∀ f ∈ (P.fieldsOf t).toList, SelfAt P d f.type (xs.extract off (off + m)) f.offset) : SelfAt P (d + 1) t xs off := by
  obtain ⟨i, hti⟩ := Option.isSome_iff_exists.1 ht
  refine ⟨.agg (xs.extract off (off + m)), fun w => ?_, fun w => self_struct hu hp h w⟩
  simp [part, isAgg, run_underlying hu, run_sizeOf w hti, hm]
/-- '==' of a struct or an array with itself. -/
theorem eql_self {t : TypeId} {xs : Array Value} (h : ∀ w, (Op.equalIn (9999 + 1) t (.agg xs) (.agg xs)).run P w = .ok true w) (w : World) : (binOp .eql t (.agg xs) (.agg xs)).run P w = .ok (.bool true) w := by
  rw [run_eql_struct, show (10000 : Nat) = 9999 + 1 from rfl, h w]; rfl
end
end Go.Proofs.YtabfmhlhdebcpaaGreatDoor
