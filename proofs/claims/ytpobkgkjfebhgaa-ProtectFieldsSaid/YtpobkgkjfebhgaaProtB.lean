/- The walks of package protect: high, low, parts. -/
import Derived.Test.YtpobkgkjfebhgaaProtA
namespace Go.Proofs.Ytpobkgkjfebhgaa
open Go.RowKit
set_option linter.unusedVariables false
set_option linter.unusedSimpArgs false

namespace Prot
/-- Big-endian bytes, and their value. -/
def be (v : BitVec 64) (n : Nat) : List (BitVec 8) := (Wire.le v n).reverse
def val (l : List (BitVec 8)) : BitVec 64 := Wire.get l.reverse
/-- Where the tuple lies. -/
def place (fs : Bool) (n : Nat) : Nat := if fs then 0 else n - 8
end Prot
theorem bsz : (Try.prog.info? 5).map (·.size) = some 1 := by kernel_rfl

theorem high_any (v : BitVec 64) (n : Nat) (w : World) (h1 : 1 ≤ n) (h2 : n ≤ 8) (h : n < 8 → v >>> (8 * n) = 0#64) :
    Calls Try.prog 27 #[.int .u64 (uv v), .int .i64 n] w fun e w' => ∃ u, e = .returned u ∧ BytesV w' u (Prot.be v n) ∧ Below w.heap.size w w' := by
  have HH := Lib.hid h; clear h
  go_enter Try.func27, Try.ntmps27
  go_wp2_with fail
  refine (Put_ok v n _ h1 h2 HH.out).mono ?_
  rintro e w1 ⟨g, rfl, hown, hb⟩
  have hl := Wire.le_len v n
  have hown' : w1.ownsRow w.heap.size 5 1 (.slice (some ⟨g, 0, none⟩) n n) (Wire.le v n).length (by8 (Wire.le v n)) := by rw [hl]; exact hown
  clear hown hl
  have HO := Lib.hid hown'; clear hown'
  have HB := Lib.hid hb; clear hb
  go_wp2_with fail
  refine (Reverse_own _ (Wire.le v n) w.heap.size _ HO.out (by rw [Wire.le_len]; omega)).mono ?_
  rintro e w2 ⟨rfl, hown2, hgr⟩
  have HO2 := Lib.hid hown2; clear hown2
  have HG := Lib.hid hgr; clear hgr
  go_wp2_with fail
  go_ret
  exact ⟨_, rfl, BytesV.of_own (by rw [Prot.be, List.length_reverse]; exact HO2.out), HB.out.grown HG.out HB.out.size (fun k hk => ((HO.out.lt) k hk).1)⟩

theorem low_any (u : Value) (l : List (BitVec 8)) (w : World) (hv : BytesV w u l) (h1 : 1 ≤ l.length) (h2 : l.length ≤ 8) :
    Calls Try.prog 34 #[u] w fun e w' => e = .returned (.int .u64 (uv (Prot.val l))) ∧ Below w.heap.size w w' := by
  go_enter Try.func34, Try.ntmps34
  go_wp2_with fail
  refine (Clone_any u l _ hv (by omega)).mono ?_
  rintro e w1 ⟨u1, rfl, hown, hb⟩
  have HO := Lib.hid hown; clear hown
  have HB := Lib.hid hb; clear hb
  go_wp2_with fail
  refine (Reverse_own _ l w.heap.size _ HO.out (by omega)).mono ?_
  rintro e w2 ⟨rfl, hown2, hgr⟩
  have HO2 := Lib.hid hown2; clear hown2
  have HG := Lib.hid hgr; clear hgr
  go_wp2_with fail
  refine (Get_ok _ l.reverse _ (BytesV.of_own (by rw [List.length_reverse]; exact HO2.out)) (by simp; omega) (by simp; omega)).mono ?_
  rintro e w3 ⟨rfl, rfl⟩
  go_wp2_with fail
  go_ret
  exact ⟨rfl, HB.out.grown HG.out HB.out.size (fun k hk => ((HO.out.lt) k hk).1)⟩

theorem parts_any (ty : Int) (fs : Bool) (v : Value) (l : List (BitVec 8)) (w : World) (hv : BytesV w v l) (hl : 8 ≤ l.length) :
    Calls Try.prog 24 #[.agg #[.int .i64 ty, .bool fs], v] w fun e w' => ∃ u1 u2 u3, e = .returned (.tuple #[u1, u2, u3]) ∧ BytesV w' u1 (l.take (Prot.place fs l.length)) ∧ BytesV w' u2 ((l.drop (Prot.place fs l.length)).take 8) ∧ BytesV w' u3 (l.drop (Prot.place fs l.length + 8)) ∧ Below w.heap.size w w' := by
  obtain ⟨p, hp⟩ : ∃ p, p = Prot.place fs l.length := ⟨_, rfl⟩
  have hple : p + 8 ≤ l.length := by subst hp; unfold Prot.place; split <;> omega
  rw [← hp]
  obtain ⟨u1, b1, -, r1⟩ := hv.cut3 Try.underlying46 bsz 0 p p (by omega) (by omega) (by omega)
  obtain ⟨u2, b2, r2, -⟩ := hv.cut3 Try.underlying46 bsz p (p + 8) (p + 8) (by omega) (by omega) (by omega)
  obtain ⟨u3, b3, r3⟩ := hv.cutl Try.underlying46 bsz (p + 8) (by omega)
  replace r1 := r1 rfl
  rw [List.drop_zero] at b1
  rw [show (l.take (p + 8)).drop p = (l.drop p).take 8 by rw [List.drop_take]; congr 1; omega] at b2
  have B1 := Lib.hid b1; clear b1
  have B2 := Lib.hid b2; clear b2
  have B3 := Lib.hid b3; clear b3
  obtain ⟨a, c, rfl, _, _, _, _⟩ := hv
  have e8 : ((p + 8 : Nat) : Int) = (p : Int) + 8 := by omega
  rw [e8] at r2 r3
  clear e8
  have HP := Lib.hid hp; clear hp
  cases fs
  · have hpl : (l.length : Int) - 8 = (p : Int) := by have := HP.out; simp [Prot.place] at this; omega
    go_enter Try.func24, Try.ntmps24
    go_wp2_with fail
    go_quiet (fail)
    go_wp2_with fail
    go_ret3
    have hb : Below w.heap.size w ((w.alloc (.cells #[.int .i64 ty, .bool false] 42)).drewN nq) := gr_tr (gr_alloc _ _) (gr_drewN _ _)
    exact ⟨u1, u2, u3, rfl, B1.out.below hb, B2.out.below hb, B3.out.below hb, hb⟩
  · obtain rfl : p = 0 := by have := HP.out; simp [Prot.place] at this; omega
    simp only [Int.natCast_zero, Int.zero_add] at r1 r2 r3
    go_enter Try.func24, Try.ntmps24
    go_wp2_with fail
    go_quiet (fail)
    go_wp2_with fail
    go_ret3
    have hb : Below w.heap.size w ((w.alloc (.cells #[.int .i64 ty, .bool true] 42)).drewN nq) := gr_tr (gr_alloc _ _) (gr_drewN _ _)
    exact ⟨u1, u2, u3, rfl, B1.out.below hb, B2.out.below hb, B3.out.below hb, hb⟩
end Go.Proofs.Ytpobkgkjfebhgaa
