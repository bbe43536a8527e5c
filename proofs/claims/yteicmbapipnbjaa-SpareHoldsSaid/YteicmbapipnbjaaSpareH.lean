/- Descriptions of pages: the walks of Decode's closures, read and long. -/
import Derived.Test.YteicmbapipnbjaaSpareG
namespace Go.Proofs.Yteicmbapipnbjaa
open Go.RowKit
set_option linter.unusedVariables false
set_option linter.unusedSimpArgs false
theorem read_ok {d : Nat} (R p : Nat) (T : TypeId) (v : Value) (l : List (BitVec 8)) (m k : Nat) (K : Int) (x : BitVec 64) (w : World) (hR : w.heap[R]? = some (.cells #[.pointer (some ⟨p, 0, none⟩)] T (0, 0))) (hp : RdAt w 88 p d v l m) (hK : K = k) (h1 : 1 ≤ k) (h4 : k ≤ 4) (hk : k ≤ l.length) (hx : Wire.get (l.take k) = x) (hx32 : uv x < 4294967296) :
    Calls Try.prog 28 #[.int .i64 K, .pointer (some ⟨R, 0, none⟩)] w fun e w' => e = .returned (.int .i64 (uv x)) ∧ (∃ v', RdAt w' 88 p d v' (l.drop k) (m + k)) ∧ Chg (fun b => b = p) w w' := by
  subst hK
  have hx0 := uv_nonneg x
  have c0 : w.cell? ⟨R, 0, none⟩ = some (.pointer (some ⟨p, 0, none⟩)) := (cell_of_row _ _ 0 _ _ _ hR).trans rfl
  have RD := Lib.hid hp; have HK := Lib.hid hk; have HX := Lib.hid hx
  clear hR hp hk hx
  go_enter Try.func28, Try.ntmps28
  go_wp2_with (first
    | (go_at_call 29; refine (Next_ok p v l m k x _ RD.out h1 (by omega) HK.out HX.out).mono ?_; rintro r w1 ⟨rfl, ⟨v', hr⟩, hc⟩; have R1 := Lib.hid hr; have C1 := Lib.hid hc; clear hr hc)
    | (go_at_call 26; refine (must_true _ _).mono ?_; rintro r w2 ⟨rfl, rfl⟩))
  go_ret
  exact ⟨rfl, ⟨v', R1.out⟩, C1.out⟩
theorem long_ok {d : Nat} (R p : Nat) (T : TypeId) (v : Value) (l : List (BitVec 8)) (m : Nat) (x : BitVec 64) (w : World) (hR : w.heap[R]? = some (.cells #[.pointer (some ⟨p, 0, none⟩)] T (0, 0))) (hp : RdAt w 88 p d v l m) (hk : 8 ≤ l.length) (hx : Wire.get (l.take 8) = x) :
    Calls Try.prog 30 #[.pointer (some ⟨R, 0, none⟩)] w fun e w' => e = .returned (.int .u64 (uv x)) ∧ (∃ v', RdAt w' 88 p d v' (l.drop 8) (m + 8)) ∧ Chg (fun b => b = p) w w' := by
  have c0 : w.cell? ⟨R, 0, none⟩ = some (.pointer (some ⟨p, 0, none⟩)) := (cell_of_row _ _ 0 _ _ _ hR).trans rfl
  have RD := Lib.hid hp; have HK := Lib.hid hk; have HX := Lib.hid hx
  clear hR hp hk hx
  go_enter Try.func30, Try.ntmps30
  go_wp2_with (first
    | (go_at_call 29; refine (Next_ok p v l m 8 x _ RD.out (by omega) (by omega) HK.out HX.out).mono ?_; rintro r w1 ⟨rfl, ⟨v', hr⟩, hc⟩; have R1 := Lib.hid hr; have C1 := Lib.hid hc; clear hr hc)
    | (go_at_call 26; refine (must_true _ _).mono ?_; rintro r w2 ⟨rfl, rfl⟩))
  go_ret
  exact ⟨rfl, ⟨v', R1.out⟩, C1.out⟩
end Go.Proofs.Yteicmbapipnbjaa
