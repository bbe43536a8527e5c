/- The walks of capsuleref01: Put, Get. -/
import Derived.Test.YtabfmhlhdebcpaaGreatDoorWireH
import Derived.Test.YtabfmhlhdebcpaaGreatDoorWireMath3
import Derived.Test.YtabfmhlhdebcpaaGreatDoorByte1
namespace Go.Proofs.YtabfmhlhdebcpaaGreatDoor
open Go.RowKit
set_option linter.unusedVariables false
set_option linter.unusedSimpArgs false
/-- A slice that lies behind the base. -/
def NewV (base : Nat) (u : Value) : Prop := ∀ g o n c, u = .slice (some ⟨g, o, none⟩) n c → base ≤ g
theorem NewV.nil (base : Nat) : NewV base (.slice none 0 0) := fun g o n c e => by cases e
theorem NewV.of_own {w : World} {base n size : Nat} {e : TypeId} {v : Value} {xs : List Value} (h : w.ownsRow base e size v n xs) : NewV base v := by
  intro g o m c e
  obtain ⟨_, h2⟩ := h
  rcases h2 with ⟨rfl, _⟩ | ⟨g', cap, cur, rfl, hg, _⟩
  · cases e
  · cases e; exact hg
theorem rPut_arg (v : BitVec 64) (n : Int) (w : World) (h : n < 1 ∨ (1 ≤ n ∧ 8 < n)) :
    Calls Tryz.prog 38 #[.int .u64 (uv v), .int .i64 n] w fun e w' => e = .returned (.tuple #[.slice none 0 0, .int .i64 2]) ∧ w = w' := by
  rcases h with h | ⟨h, h'⟩
  · go_enter Tryz.func38, Tryz.ntmps38
    go_wp2
    go_ret2
    exact ⟨rfl, rfl⟩
  · have h1 : ¬ n < 1 := by omega
    go_enter Tryz.func38, Tryz.ntmps38
    go_wp2
    go_ret2
    exact ⟨rfl, rfl⟩
theorem rPut_in (v : BitVec 64) (n : Nat) (e : Int) (l : List (BitVec 8)) (w : World) (h1 : 1 ≤ n) (h8 : n ≤ 8) (he : (if v >>> (8 * n) = 0#64 then (0 : Int) else 3) = e) (hl : (if v >>> (8 * n) = 0#64 then Wire.le v n else []) = l) :
    Calls Tryz.prog 38 #[.int .u64 (uv v), .int .i64 n] w fun x w' => ∃ u, x = .returned (.tuple #[u, .int .i64 e]) ∧ BytesV w' u l ∧ NewV w.heap.size u ∧ Below w.heap.size w w' := by
  have HE := Lib.hid he; have HL := Lib.hid hl; clear he hl
  go_enter Tryz.func38, Tryz.ntmps38
  go_wp2
  go_loopw [0, 6, 7] (fun x o i wr => ∃ k : Nat, k ≤ n ∧ i = .int .i64 k ∧ x = .int .u64 (uv (v >>> (8 * k))) ∧ wr.ownsRow w.heap.size 5 1 o k (by8 (Wire.le v k)) ∧ Below w.heap.size w wr) (fun _ _ i _ => n - (intOf i).toNat)
  case atStart => exact ⟨0, by omega, rfl, by simp, World.ownsRow_nil _ _ _ _, Below.refl _ _⟩
  case round =>
    obtain ⟨k, hk, rfl, rfl, hown, hb⟩ := hrel
    have O := Lib.hid hown; have B := Lib.hid hb; clear hown hb
    by_cases hlt : k < n
    · have hr := uv_tmod (v >>> (8 * k))
      have hq := uv_tdiv (v >>> (8 * k))
      have hq2 := uv_ediv (v >>> (8 * k))
      have HR := Lib.hid (Wire.rem_byte v k)
      have HQ := Lib.hid (Wire.quo_step v k)
      obtain ⟨q, hqq⟩ : ∃ q, (v >>> (8 * k)) / 256#64 = q := ⟨_, rfl⟩
      obtain ⟨m, hmm⟩ : ∃ q, (v >>> (8 * k)) % 256#64 = q := ⟨_, rfl⟩
      rw [hmm] at hr
      rw [hqq] at hq hq2
      have HQQ := Lib.hid hqq; have HMM := Lib.hid hmm
      clear hqq hmm
      go_wp2_with (at_builtin; go_loud (refine app_one rfl (.tmp 19) (.tmp 23) rfl _ w.heap.size k (Wire.le v k) rfl O.out B.out.size (m.setWidth 8) rfl (by omega) ?_; intro v' w' ho hb; have O2 := Lib.hid ho; have B2 := Lib.hid hb; clear ho hb))
      go_roundw
      case rel => exact ⟨k + 1, by omega, by go_num, by rw [← HQQ.out, HQ.out], by rw [Wire.le_snoc, ← HR.out, HMM.out]; exact O2.out, B.out.trans B2.out⟩
      case measure => simp [intOf]; omega
    · obtain rfl : k = n := by omega
      by_cases hz : v >>> (8 * k) = 0#64
      · have hg : decide (0 < uv (v >>> (8 * k))) = false := by rw [hz]; decide
        obtain rfl : e = 0 := by have := HE.out; rw [if_pos hz] at this; exact this.symm
        obtain rfl : l = Wire.le v k := by have := HL.out; rw [if_pos hz] at this; exact this.symm
        clear hz
        go_wp2
        go_ret2
        exact ⟨_, rfl, BytesV.of_own (by rw [Wire.le_len]; exact O.out), NewV.of_own O.out, B.out⟩
      · have hg : decide (0 < uv (v >>> (8 * k))) = true := decide_eq_true (uv_pos _ hz)
        obtain rfl : e = 3 := by have := HE.out; rw [if_neg hz] at this; exact this.symm
        obtain rfl : l = [] := by have := HL.out; rw [if_neg hz] at this; exact this.symm
        clear hz
        go_wp2
        go_ret2
        exact ⟨_, rfl, BytesV.nil _, NewV.nil _, B.out⟩
theorem rPut_new (v : BitVec 64) (n : Int) (e : Int) (l : List (BitVec 8)) (w : World) (he : Wire.putE v n = e) (hl : Wire.putB v n = l) :
    Calls Tryz.prog 38 #[.int .u64 (uv v), .int .i64 n] w fun x w' => ∃ u, x = .returned (.tuple #[u, .int .i64 e]) ∧ BytesV w' u l ∧ NewV w.heap.size u ∧ Below w.heap.size w w' := by
  rcases Wire.putE_cases v n with ⟨h, hn⟩ | ⟨h, k, rfl, h1, h2, h3⟩ | ⟨h, k, rfl, h1, h2, h3⟩
  · obtain rfl : e = 2 := he.symm.trans h
    obtain rfl : l = [] := hl.symm.trans (Wire.putB_no v n (by omega))
    refine (rPut_arg v n w hn).mono ?_
    rintro x w' ⟨rfl, rfl⟩
    exact ⟨_, rfl, BytesV.nil _, NewV.nil _, Below.refl _ _⟩
  · obtain rfl : e = 3 := he.symm.trans h
    obtain rfl : l = [] := hl.symm.trans (Wire.putB_no v k (by omega))
    exact rPut_in v k 3 [] w h1 (by omega) (if_neg h3) (if_neg h3)
  · obtain rfl : e = 0 := he.symm.trans h
    obtain rfl : l = Wire.le v k := hl.symm.trans (Wire.putB_ok v k h)
    have hz : v >>> (8 * k) = 0#64 := by
      by_cases h8 : k < 8
      · exact h3 h8
      · exact BitVec.ushiftRight_eq_zero (by omega)
    exact rPut_in v k 0 _ w h1 h2 (if_pos hz) (if_pos hz)
theorem rPut_at (v : BitVec 64) (n : Int) (e : Int) (l : List (BitVec 8)) (w : World) (he : Wire.putE v n = e) (hl : Wire.putB v n = l) :
    Calls Tryz.prog 38 #[.int .u64 (uv v), .int .i64 n] w fun x w' => ∃ u, x = .returned (.tuple #[u, .int .i64 e]) ∧ BytesV w' u l ∧ Below w.heap.size w w' :=
  (rPut_new v n e l w he hl).mono fun x w' ⟨u, h1, h2, _, h3⟩ => ⟨u, h1, h2, h3⟩
theorem rGet_arg (u : Value) (l : List (BitVec 8)) (w : World) (hv : BytesV w u l) (h : l.length < 1 ∨ 8 < l.length) :
    Calls Tryz.prog 78 #[u] w fun e w' => e = .returned (.tuple #[.int .u64 0, .int .i64 2]) ∧ w = w' := by
  obtain ⟨a, c, rfl, -⟩ := hv
  rcases h with h | h
  · have h1 : decide ((l.length : Int) < 1) = true := decide_eq_true (by omega)
    clear h
    go_enter Tryz.func78, Tryz.ntmps78
    go_wp2
    go_ret2
    exact ⟨rfl, rfl⟩
  · have h1 : decide ((l.length : Int) < 1) = false := decide_eq_false (by omega)
    have h2 : decide ((l.length : Int) > 8) = true := decide_eq_true (by omega)
    clear h
    go_enter Tryz.func78, Tryz.ntmps78
    go_wp2
    go_ret2
    exact ⟨rfl, rfl⟩
theorem rGet_ok (u : Value) (l : List (BitVec 8)) (w : World) (hv : BytesV w u l) (h1 : 1 ≤ l.length) (h2 : l.length ≤ 8) :
    Calls Tryz.prog 78 #[u] w fun e w' => e = .returned (.tuple #[.int .u64 (uv (Wire.get l)), .int .i64 0]) ∧ w = w' := by
  obtain ⟨a, c, rfl, -, -, -, hrow⟩ := hv
  have d1 : decide ((l.length : Int) < 1) = false := decide_eq_false (by omega)
  have d2 : decide ((l.length : Int) > 8) = false := decide_eq_false (by omega)
  have ROW := Lib.hid hrow; clear hrow
  go_enter Tryz.func78, Tryz.ntmps78
  go_wp2
  go_loop [4, 5] (fun s i => ∃ j : Nat, j ≤ l.length ∧ i = .int .i64 ((j : Int) - 1) ∧ s = .int .u64 (uv (Wire.get (l.drop j)))) (fun _ i => (intOf i + 1).toNat)
  case atStart => exact ⟨l.length, by omega, rfl, by rw [List.drop_of_length_le (by omega)]; rfl⟩
  case round =>
    obtain ⟨j, hj, rfl, rfl⟩ := hrel
    cases j with
    | zero =>
      have e : ((0 : Nat) : Int) - 1 = -1 := rfl
      rw [e]
      go_wp2
      go_ret2
      exact ⟨rfl, rfl⟩
    | succ q =>
      have e : ((q + 1 : Nat) : Int) - 1 = (q : Int) := by omega
      rw [e]
      clear e
      obtain ⟨y, hy⟩ : ∃ y, l[q]? = some y := ⟨l[q], List.getElem?_eq_getElem (by omega)⟩
      obtain ⟨b, o, rfl, hcell⟩ := ROW.out.at (i := q) (v := .int .u8 (uv y)) (by rw [by8_get, hy]; rfl)
      have HS := Lib.hid (Wire.get_drop l q y hy)
      have HM := Lib.hid (Wire.mul_add (Wire.get (l.drop (q + 1))) y)
      clear hy
      go_wp2
      go_round
      case rel => exact ⟨q, by omega, by go_num, by rw [HS.out, ← HM.out]⟩
      case measure => simp [intOf]
theorem rGet_at (u : Value) (l : List (BitVec 8)) (x : BitVec 64) (n : Int) (w : World) (hv : BytesV w u l) (hx : Wire.getV l = x) (hn : Wire.getE l = n) :
    Calls Tryz.prog 78 #[u] w fun e w' => e = .returned (.tuple #[.int .u64 (uv x), .int .i64 n]) ∧ w = w' := by
  by_cases h : l.length < 1 ∨ 8 < l.length
  · have h1 : Wire.getE l = 2 := if_pos h
    obtain rfl : n = 2 := hn.symm.trans h1
    obtain rfl : x = 0#64 := by rw [← hx]; unfold Wire.getV; rw [h1]; rfl
    exact rGet_arg u l w hv h
  · have h1 : Wire.getE l = 0 := if_neg h
    obtain rfl : n = 0 := hn.symm.trans h1
    obtain rfl : x = Wire.get l := by rw [← hx]; unfold Wire.getV; rw [if_pos h1]
    exact rGet_ok u l w hv (by omega) (by omega)
end Go.Proofs.YtabfmhlhdebcpaaGreatDoor
