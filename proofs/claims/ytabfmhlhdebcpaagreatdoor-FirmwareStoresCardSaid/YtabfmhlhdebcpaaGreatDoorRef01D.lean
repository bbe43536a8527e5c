/- The walks of capsuleref01: Plain, Zeros, Pad, Text. -/
import Derived.Test.YtabfmhlhdebcpaaGreatDoorRef01C
import Derived.Test.YtabfmhlhdebcpaaGreatDoorPadA
namespace Go.Proofs.YtabfmhlhdebcpaaGreatDoor
open Go.RowKit
set_option linter.unusedVariables false
set_option linter.unusedSimpArgs false
theorem all_take {α : Type} (p : α → Bool) (l : List α) (k : Nat) (x : α) (h : l[k]? = some x) : (l.take (k + 1)).all p = ((l.take k).all p && p x) := by
  obtain ⟨hk, rfl⟩ := List.getElem?_eq_some_iff.1 h
  rw [List.take_succ_eq_append_getElem hk, List.all_append]; simp
theorem all_miss {α : Type} (p : α → Bool) (l : List α) (k : Nat) (x : α) (h : l[k]? = some x) (hp : p x = false) : l.all p = false := by
  obtain ⟨hk, rfl⟩ := List.getElem?_eq_some_iff.1 h
  rw [List.all_eq_false]; exact ⟨_, List.getElem_mem hk, by simpa using hp⟩
theorem rPlain_any (v : Value) (l : List (BitVec 8)) (b : Bool) (w : World) (hv : BytesV w v l) (hb : Wire.plain l = b) :
    Calls Tryz.prog 54 #[v] w fun e w' => e = .returned (.bool b) ∧ w = w' := by
  subst hb
  obtain ⟨a, c, rfl, -, hc, hm, hrow⟩ := hv
  have HROW := Lib.hid hrow; clear hrow
  have hm' : l.length ≤ 9223372036854775807 := by omega
  unfold Wire.plain
  go_enter Tryz.func54, Tryz.ntmps54
  go_wp2
  go_loop [3] (fun i => ∃ k : Nat, k ≤ l.length ∧ i = .int .i64 k ∧ Hid ((l.take k).all Wire.plainB = true)) (fun i => l.length - (intOf i).toNat)
  case atStart => exact ⟨0, by omega, rfl, rfl⟩
  case round =>
    obtain ⟨k, hk, rfl, hE⟩ := hrel
    by_cases hlt : k < l.length
    · obtain ⟨x, hx⟩ : ∃ x, l[k]? = some x := ⟨l[k], List.getElem?_eq_getElem hlt⟩
      obtain ⟨b, o, rfl, hcell⟩ := HROW.out.at (i := k) (v := .int .u8 (uv x)) (by rw [by8_get, hx]; rfl)
      have HS := Lib.hid (all_take Wire.plainB l k x hx)
      have HH := Lib.hid (all_miss Wire.plainB l k x hx)
      clear hx
      by_cases h32 : uv x < 32
      · have hz : Wire.plainB x = false := by unfold Wire.plainB; simp; omega
        have HZ := Lib.hid hz; clear hz
        have d1 : decide (uv x < 32) = true := decide_eq_true h32
        clear h32
        go_wp2
        go_ret
        exact ⟨by rw [HH.out HZ.out]; rfl, rfl⟩
      · have d1 : decide (uv x < 32) = false := decide_eq_false h32
        by_cases h126 : 126 < uv x
        · have hz : Wire.plainB x = false := by unfold Wire.plainB; simp; omega
          have HZ := Lib.hid hz; clear hz
          have d2 : decide (126 < uv x) = true := decide_eq_true h126
          clear h32 h126
          go_wp2
          go_ret
          exact ⟨by rw [HH.out HZ.out]; rfl, rfl⟩
        · have hz : Wire.plainB x = true := by unfold Wire.plainB; simp; omega
          have HZ := Lib.hid hz; clear hz
          have d2 : decide (126 < uv x) = false := decide_eq_false h126
          clear h32 h126
          go_wp2
          go_round
          case rel => exact ⟨k + 1, by omega, by go_num, Lib.hid (by rw [HS.out, hE.out, HZ.out]; rfl)⟩
          case measure => simp [intOf]; omega
    · obtain rfl : k = l.length := by omega
      have h1 := hE.out
      rw [List.take_length] at h1
      have H1 := Lib.hid h1; clear h1
      go_wp2
      go_ret
      exact ⟨by rw [H1.out]; rfl, rfl⟩
theorem rPad_no (l : List (BitVec 8)) (n e : Int) (w : World) (hl : l.length ≤ 140737488355328) (hn : -9223372036854775808 ≤ n) (he : Wire.padE l n = e) (h0 : e ≠ 0) :
    Calls Tryz.prog 37 #[.string (strOf l), .int .i64 n] w fun x w' => x = .returned (.tuple #[.slice none 0 0, .int .i64 e]) ∧ Below w.heap.size w w' := by
  obtain ⟨v, w1, hrun, hown, hb⟩ := conv_bytes w l (by omega)
  have O := Lib.hid hown; have B := Lib.hid hb; clear hown hb
  have hsz := str_size l
  by_cases h1 : n < 0
  · obtain rfl : e = 2 := by rw [← he]; exact if_pos (.inl h1)
    clear he h0 hn
    go_enter Tryz.func37, Tryz.ntmps37
    go_wp2
    go_ret2
    exact ⟨rfl, Below.refl _ _⟩
  · cases h2 : Wire.plain l
    · obtain rfl : e = 2 := by rw [← he]; exact if_pos (.inr h2)
      have HP := Lib.hid h2
      clear he h0 hn h2
      go_enter Tryz.func37, Tryz.ntmps37
      go_wp2_with (go_at_call 54; go_loud (refine (rPlain_any _ l false _ O.out.bytes HP.out).mono ?_; rintro r w' ⟨rfl, rfl⟩))
      go_ret2
      exact ⟨rfl, B.out⟩
    · have HP := Lib.hid h2
      have he' : (if (l.length : Int) > n ∨ n > 1048576 then (5 : Int) else 0) = e := by
        rw [← he]; unfold Wire.padE; rw [if_neg (show ¬ (n < 0 ∨ Wire.plain l = false) by rintro (h | h); exact h1 h; rw [h2] at h; cases h)]
      have h3 : (l.length : Int) > n ∨ n > 1048576 := by
        by_cases h : (l.length : Int) > n ∨ n > 1048576
        · exact h
        · rw [if_neg h] at he'; exact absurd he'.symm h0
      obtain rfl : e = 5 := by rw [← he', if_pos h3]
      clear he h0 hn h2 he'
      by_cases h4 : (l.length : Int) > n
      · have d4 : decide (n < (l.length : Int)) = true := decide_eq_true h4
        clear h3 h4
        go_enter Tryz.func37, Tryz.ntmps37
        go_wp2_with (go_at_call 54; go_loud (refine (rPlain_any _ l true _ O.out.bytes HP.out).mono ?_; rintro r w' ⟨rfl, rfl⟩))
        go_ret2
        exact ⟨rfl, B.out⟩
      · have d4 : decide (n < (l.length : Int)) = false := decide_eq_false h4
        have d5 : decide (1048576 < n) = true := decide_eq_true (by omega)
        clear h3 h4
        go_enter Tryz.func37, Tryz.ntmps37
        go_wp2_with (go_at_call 54; go_loud (refine (rPlain_any _ l true _ O.out.bytes HP.out).mono ?_; rintro r w' ⟨rfl, rfl⟩))
        go_ret2
        exact ⟨rfl, B.out⟩
theorem OwnT.new {w : World} {base : Nat} {v : Value} {l : List (BitVec 8)} (h : OwnT w base v l) : NewV base v := by
  intro g o m c e
  rcases h with ⟨rfl, _⟩ | ⟨g', cap, cur, fz, rfl, hg, _⟩
  · cases e
  · cases e; exact hg
set_option maxRecDepth 8000 in
theorem rPad_ok (l : List (BitVec 8)) (n : Nat) (w : World) (hp : Wire.plain l = true) (hl : l.length ≤ n) (hn : n ≤ 1048576) :
    Calls Tryz.prog 37 #[.string (strOf l), .int .i64 n] w fun x w' => ∃ u, x = .returned (.tuple #[u, .int .i64 0]) ∧ BytesV w' u (l ++ List.replicate (n - l.length) 32#8) ∧ NewV w.heap.size u ∧ Below w.heap.size w w' := by
  obtain ⟨v, w1, hrun, hown, hb⟩ := conv_bytes w l (by omega)
  have O := Lib.hid hown; have B := Lib.hid hb; clear hown hb
  obtain ⟨v2, w2, hrun2, hown2, hb2⟩ := conv_bytes w1 l (by omega)
  have O2 := Lib.hid (show OwnT w2 w.heap.size v2 l by
    rcases hown2 with h | ⟨g, cap, cur, fz, h1, h2, h3⟩
    · exact .inl h
    · exact .inr ⟨g, cap, cur, fz, h1, Nat.le_trans B.out.size h2, h3⟩)
  have B2 := Lib.hid (gr_tr B.out hb2); clear hown2 hb2
  have hsz := str_size l
  have HP := Lib.hid hp
  have d1 : decide ((n : Int) < 0) = false := decide_eq_false (by omega)
  have d4 : decide (n < l.length) = false := decide_eq_false (by omega)
  have d5 : decide (1048576 < (n : Int)) = false := decide_eq_false (by omega)
  have HL := Lib.hid hl; have HN := Lib.hid hn
  clear hp hl hn
  go_enter Tryz.func37, Tryz.ntmps37
  go_wp2_with (go_at_call 54; go_loud (refine (rPlain_any _ l true _ O.out.bytes HP.out).mono ?_; rintro r w' ⟨rfl, rfl⟩))
  go_loopw [6] (fun o wr => ∃ k : Nat, l.length + k ≤ n ∧ OwnT wr w.heap.size o (l ++ List.replicate k 32#8) ∧ Below w.heap.size w wr) (fun o _ => n - (match o with | .slice _ m _ => m | _ => 0))
  case atStart => exact ⟨0, by have := HL.out; omega, by simpa using O2.out, B2.out⟩
  case round =>
    obtain ⟨k, hk, hown, hb⟩ := hrel
    have P := Lib.hid hown; have C := Lib.hid hb; clear hown hb
    have hpl : (l ++ List.replicate k 32#8).length = l.length + k := by simp
    obtain ⟨ap, cp, hs⟩ : ∃ a c, _ = Value.slice a (l.length + k) c := by obtain ⟨a, c, h, _⟩ := P.out.bytes; rw [hpl] at h; exact ⟨_, _, h⟩
    subst hs
    have hnb : n ≤ 1048576 := HN.out
    by_cases hlt : l.length + k < n
    · have hlt' : ((l.length : Int) + (k : Int)) < (n : Int) := by omega
      go_wp2_with (at_builtin; go_loud (refine app_tail_one rfl (.tmp 29) (.tmp 30) rfl _ w.heap.size (l ++ List.replicate k 32#8) rfl P.out C.out.size 32#8 rfl (by rw [hpl]; omega) ?_; intro v' w' ho hb; have P2 := Lib.hid ho; have C2 := Lib.hid hb; clear ho hb))
      obtain ⟨a2, c2, hs2⟩ : ∃ a c, v' = Value.slice a (l.length + k + 1) c := by
        obtain ⟨a, c, h, _⟩ := P2.out.bytes
        rw [List.length_append, hpl] at h; exact ⟨_, _, h⟩
      subst hs2
      go_roundw
      case rel => exact ⟨k + 1, by omega, by rw [List.replicate_succ', ← List.append_assoc]; exact P2.out, C.out.trans C2.out⟩
      case measure => show n - (l.length + k + 1) < n - (l.length + k); omega
    · have hnk : n - l.length = k := by omega
      have HK := Lib.hid hnk; clear hnk
      go_wp2
      go_ret2
      exact ⟨_, rfl, by rw [HK.out]; exact P.out.bytes, P.out.new, C.out⟩
theorem rPad_new (l : List (BitVec 8)) (n e : Int) (m : List (BitVec 8)) (w : World) (hl : l.length ≤ 140737488355328) (hn : -9223372036854775808 ≤ n) (he : Wire.padE l n = e) (hm : Wire.pad l n = m) :
    Calls Tryz.prog 37 #[.string (strOf l), .int .i64 n] w fun x w' => ∃ u, x = .returned (.tuple #[u, .int .i64 e]) ∧ BytesV w' u m ∧ NewV w.heap.size u ∧ Below w.heap.size w w' := by
  by_cases h0 : e = 0
  · subst h0
    have h1 : ¬ (n < 0 ∨ Wire.plain l = false) := by
      intro h; unfold Wire.padE at he; rw [if_pos h] at he; cases he
    have h2 : ¬ ((l.length : Int) > n ∨ n > 1048576) := by
      intro h; unfold Wire.padE at he; rw [if_neg h1, if_pos h] at he; cases he
    obtain ⟨k, rfl⟩ : ∃ k : Nat, n = k := ⟨n.toNat, by omega⟩
    have hm' : l ++ List.replicate (k - l.length) 32#8 = m := by rw [← hm]; unfold Wire.pad; rw [if_pos he]; rfl
    refine (rPad_ok l k w (by cases h : Wire.plain l; exact absurd (.inr h) h1; rfl) (by omega) (by omega)).mono ?_
    rintro x w' ⟨u, hx, ho, hn, hb⟩
    exact ⟨u, hx, hm' ▸ ho, hn, hb⟩
  · obtain rfl : m = [] := by rw [← hm]; unfold Wire.pad; rw [if_neg (by rw [he]; exact h0)]
    refine (rPad_no l n e w hl hn he h0).mono ?_
    rintro x w' ⟨hx, hb⟩
    exact ⟨_, hx, BytesV.nil _, NewV.nil _, hb⟩
theorem rPad_at (l : List (BitVec 8)) (n e : Int) (m : List (BitVec 8)) (w : World) (hl : l.length ≤ 140737488355328) (hn : -9223372036854775808 ≤ n) (he : Wire.padE l n = e) (hm : Wire.pad l n = m) :
    Calls Tryz.prog 37 #[.string (strOf l), .int .i64 n] w fun x w' => ∃ u, x = .returned (.tuple #[u, .int .i64 e]) ∧ BytesV w' u m ∧ Below w.heap.size w w' :=
  (rPad_new l n e m w hl hn he hm).mono fun x w' ⟨u, h1, h2, _, h3⟩ => ⟨u, h1, h2, h3⟩
namespace Wire
theorem rstrip_sp (r : List (BitVec 8)) : rstrip (r ++ [32#8]) = rstrip r := by
  unfold rstrip; rw [List.reverse_append]; rfl
theorem rstrip_ne (r : List (BitVec 8)) (x : BitVec 8) (h : (x == 32#8) = false) : rstrip (r ++ [x]) = r ++ [x] := by
  unfold rstrip; rw [List.reverse_append]
  show (List.dropWhile _ (x :: r.reverse)).reverse = _
  rw [List.dropWhile_cons, if_neg (by rw [h]; decide)]
  simp
end Wire
set_option maxRecDepth 8000 in
theorem rText_at (v : Value) (l m : List (BitVec 8)) (e : Int) (w : World) (hv : BytesV w v l) (hl : l.length ≤ 140737488355328) (he : Wire.textE l = e) (hm : Wire.text l = m) :
    Calls Tryz.prog 79 #[v] w fun x w' => x = .returned (.tuple #[.string (strOf m), .int .i64 e]) ∧ w = w' := by
  have V := Lib.hid hv
  obtain ⟨a, c, hs, -, -, -, hrow⟩ := id hv
  subst hs
  have HROW := Lib.hid hrow; clear hrow
  cases h : Wire.plain l
  · obtain rfl : e = 2 := by rw [← he]; unfold Wire.textE; rw [h]; rfl
    obtain rfl : m = [] := by rw [← hm]; unfold Wire.text; rw [h]; rfl
    have HP := Lib.hid h
    clear he hm h hv
    go_enter Tryz.func79, Tryz.ntmps79
    go_wp2_with (go_at_call 54; go_loud (refine (rPlain_any _ l false _ V.out HP.out).mono ?_; rintro r w' ⟨rfl, rfl⟩))
    go_ret2
    exact ⟨rfl, rfl⟩
  · obtain rfl : e = 0 := by rw [← he]; unfold Wire.textE; rw [h]; rfl
    have hm' : Wire.rstrip l = m := by rw [← hm]; unfold Wire.text; rw [h]; rfl
    have HP := Lib.hid h; have HM := Lib.hid hm'
    clear he hm h hm' hv
    go_enter Tryz.func79, Tryz.ntmps79
    go_wp2_with (go_at_call 54; go_loud (refine (rPlain_any _ l true _ V.out HP.out).mono ?_; rintro r w' ⟨rfl, rfl⟩))
    go_loop [4] (fun i => ∃ k : Nat, k ≤ l.length ∧ i = .int .i64 k ∧ Hid (Wire.rstrip (l.take k) = Wire.rstrip l)) (fun i => (intOf i).toNat)
    case atStart => exact ⟨l.length, by omega, rfl, Lib.hid (by rw [List.take_length])⟩
    case round =>
      obtain ⟨k, hk, rfl, hE⟩ := hrel
      obtain ⟨u, hu, -, hrun⟩ := V.out.cut (P := Tryz.prog) (T := 42) Tryz.underlying42 (by kernel_rfl) 0 k (by omega) (by omega)
      have hrun := hrun rfl
      rw [List.drop_zero] at hu
      have hstr := run_string hu
      obtain ⟨au, nu, cu, hsu⟩ : ∃ a n c, u = .slice a n c := by obtain ⟨a, c, h, _⟩ := id hu; exact ⟨_, _, _, h⟩
      subst hsu
      clear hu
      cases k with
      | zero =>
        have hfin : l.take 0 = m := by rw [← HM.out, ← hE.out]; rfl
        have hrun : ∀ w', (Instr.slice 42 (.slice a l.length c) none (some (.int .i64 0)) none).run Tryz.prog w' = .ok (.slice au nu cu) w' := hrun
        rw [hfin] at hstr
        clear hfin
        go_wp2
        go_ret2
        exact ⟨rfl, rfl⟩
      | succ q =>
        obtain ⟨x, hx⟩ : ∃ x, l[q]? = some x := ⟨l[q], List.getElem?_eq_getElem (by omega)⟩
        obtain ⟨b, o, rfl, hcell⟩ := HROW.out.at (i := q) (v := .int .u8 (uv x)) (by rw [by8_get, hx]; rfl)
        have hsn : l.take (q + 1) = l.take q ++ [x] := by
          obtain ⟨hl, e⟩ := List.getElem?_eq_some_iff.1 hx
          rw [List.take_succ_eq_append_getElem hl, e]
        have hi1 : ((q + 1 : Nat) : Int) - 1 = (q : Int) := by omega
        have hq1 : (q : Int) < (l.length : Int) := by omega
        cases h32 : (x == 32#8)
        · have hfin : l.take (q + 1) = m := by rw [← HM.out, ← hE.out, hsn, Wire.rstrip_ne _ _ h32]
          have hrun : ∀ w', (Instr.slice 42 (.slice (some ⟨b, o, none⟩) l.length c) none (some (.int .i64 ((q : Int) + 1))) none).run Tryz.prog w' = .ok (.slice au nu cu) w' := fun w' => by have := hrun w'; rw [show ((q + 1 : Nat) : Int) = (q : Int) + 1 by omega] at this; exact this
          have h32' : (uv x == 32) = false := by
            rw [beq_eq_false_iff_ne] at h32 ⊢
            exact fun hh => h32 (uv_inj (by rw [hh]; rfl))
          rw [hfin] at hstr
          clear hfin h32 hx hsn
          go_wp2
          go_ret2
          exact ⟨rfl, rfl⟩
        · have h32' : (uv x == 32) = true := by
            rw [beq_iff_eq] at h32 ⊢
            rw [h32]; rfl
          have HN := Lib.hid (show Wire.rstrip (l.take q) = Wire.rstrip l by rw [← hE.out, hsn, beq_iff_eq.1 h32, Wire.rstrip_sp])
          clear h32 hx hsn hrun hstr
          go_wp2
          go_round
          case rel => exact ⟨q, by omega, rfl, HN⟩
          case measure => simp [intOf]
end Go.Proofs.YtabfmhlhdebcpaaGreatDoor
