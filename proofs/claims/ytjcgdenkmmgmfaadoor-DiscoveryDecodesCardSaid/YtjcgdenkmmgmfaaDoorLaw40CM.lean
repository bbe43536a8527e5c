/- Merged: DscX, DscY, DscZ, DscPz, DscDe, Law40C. -/
import Derived.Test.YtjcgdenkmmgmfaaDoorDscV
import Derived.Test.YtjcgdenkmmgmfaaDoorDscF
import Derived.Test.YtjcgdenkmmgmfaaDoorDscI
import Derived.Test.YtjcgdenkmmgmfaaDoorCopyIn
import Derived.Test.YtjcgdenkmmgmfaaDoorDscW
namespace Go.Proofs.YtjcgdenkmmgmfaaDoor
open Go.RowKit Go.Shelf Dsc
set_option linter.unusedVariables false
set_option linter.unusedSimpArgs false
attribute [local go_sem] Oper.semAt_some
set_option maxRecDepth 20000 in
theorem rnumber_at (u : Value) (l : List (BitVec 8)) (x : BitVec 64) (w : World) (hv : BytesV w u l) (h8 : l.length ≤ 8) (hx : Wire.get l = x) :
    Calls Tryd.prog 37 #[u] w fun e w' => e = .returned (.int .u64 (uv x)) ∧ w = w' := by
  obtain ⟨a, c, rfl, -, e1, e2, hrow⟩ := hv
  have ROW := Lib.hid hrow; have HX := Lib.hid hx; have H8 := Lib.hid h8
  obtain ⟨n, hn⟩ : ∃ n, l.length = n := ⟨_, rfl⟩
  have HN := Lib.hid hn
  rw [hn] at H8 ⊢
  have hm2 : (n : Int) ≤ 8 := by omega
  clear hrow hx e1 e2 hn h8
  go_enter Tryd.func37, Tryd.ntmps37
  go_wp2
  go_loop [3, 4] (fun s i => ∃ j : Nat, j ≤ n ∧ i = .int .i64 ((j : Int) - 1) ∧ s = .int .u64 (uv (Wire.get (l.drop j)))) (fun _ i => (intOf i + 1).toNat)
  case atStart => exact ⟨n, by omega, rfl, by rw [List.drop_of_length_le (Nat.le_of_eq HN.out)]; rfl⟩
  case round =>
    obtain ⟨j, hj, rfl, rfl⟩ := hrel
    cases j with
    | zero =>
      have e : ((0 : Nat) : Int) - 1 = -1 := rfl
      rw [e, List.drop_zero, HX.out]
      go_wp2
      go_ret
      exact ⟨rfl, rfl⟩
    | succ q =>
      have e : ((q + 1 : Nat) : Int) - 1 = (q : Int) := by omega
      rw [e]
      clear e
      have hql : q < l.length := by have := HN.out; omega
      obtain ⟨y, hy⟩ : ∃ y, l[q]? = some y := ⟨l[q], List.getElem?_eq_getElem hql⟩
      obtain ⟨b, o', rfl, hcell⟩ := ROW.out.at (i := q) (v := .int .u8 (uv y)) (by rw [by8_get, hy]; rfl)
      have HS := Lib.hid (Wire.get_drop l q y hy)
      have HM := Lib.hid (Wire.mul_add (Wire.get (l.drop (q + 1))) y)
      clear hy hql
      go_wp2
      go_round
      case rel => exact ⟨q, by omega, by go_num, by rw [HS.out, ← HM.out]; first | rfl | (rw [BitVec.mul_comm])⟩
      case measure => simp [intOf]
end Go.Proofs.YtjcgdenkmmgmfaaDoor
namespace Go.Proofs.YtjcgdenkmmgmfaaDoor
open Go.RowKit Go.Shelf Dsc
set_option linter.unusedVariables false
set_option linter.unusedSimpArgs false
attribute [local go_sem] Oper.semAt_some
theorem rstrip_snoc (l : List (BitVec 8)) : Wire.rstrip (l ++ [32#8]) = Wire.rstrip l := by
  unfold Wire.rstrip
  rw [List.reverse_append]
  rfl
theorem rstrip_keep {l : List (BitVec 8)} (h : l.getLast? ≠ some 32#8) : Wire.rstrip l = l := by
  have := rstrip_pad l 0 h
  simpa using this
set_option maxRecDepth 20000 in
theorem upto_sp (u : Value) (l s : List (BitVec 8)) (w : World) (hv : BytesV w u l) (hl : l.length ≤ 4096) (hs : Wire.rstrip l = s) :
    Calls Tryd.prog 62 #[u, .int .u8 32] w fun e w' => e = .returned (.string (strOf s)) ∧ w = w' := by
  have CUT := Lib.hid (fun k hk => BytesV.cut (P := Tryd.prog) (T := 31) (E := 5) Tryd.underlying31 (by kernel_rfl) hv 0 k (Nat.zero_le _) hk)
  obtain ⟨a, c, rfl, -, e1, e2, hrow⟩ := hv
  have ROW := Lib.hid hrow; have HS := Lib.hid hs
  obtain ⟨n, hn⟩ : ∃ n, l.length = n := ⟨_, rfl⟩
  have HN := Lib.hid hn
  rw [hn] at CUT hl ⊢
  have hm2 : (n : Int) ≤ 4096 := by omega
  clear hrow hs e1 e2 hn
  go_enter Tryd.func62, Tryd.ntmps62
  go_wp2
  go_loop [5] (fun i => ∃ k : Nat, k ≤ n ∧ i = .int .i64 k ∧ Hid (Wire.rstrip (l.take k) = s)) (fun i => (intOf i).toNat)
  case atStart => exact ⟨n, by omega, rfl, Lib.hid (by rw [List.take_of_length_le (Nat.le_of_eq HN.out)]; exact HS.out)⟩
  case round =>
    obtain ⟨k, hk, rfl, hr⟩ := hrel
    by_cases hz : k = 0
    · subst hz
      obtain ⟨u', b', -, r'⟩ := CUT.out 0 (by omega)
      have r0 : ∀ w', (Instr.slice 31 (.slice a n c) none (some (.int .i64 0)) none).run Tryd.prog w' = .ok u' w' := r' (by trivial)
      have hc := run_string b'
      have e9 : s = [] := by rw [← hr.out]; rfl
      have e8 : (l.take 0).drop 0 = s := by rw [e9]; rfl
      rw [e8] at hc
      clear r' e9 e8 b'
      go_wp2
      go_ret
      exact ⟨rfl, rfl⟩
    · obtain ⟨q, hq⟩ : ∃ q, k = q + 1 := ⟨k - 1, by omega⟩
      have hql : q < l.length := by have := HN.out; omega
      obtain ⟨y, hy⟩ : ∃ y, l[q]? = some y := ⟨l[q], List.getElem?_eq_getElem hql⟩
      obtain ⟨b, o', rfl, hcell⟩ := ROW.out.at (i := q) (v := .int .u8 (uv y)) (by rw [by8_get, hy]; rfl)
      have ht : l.take k = l.take q ++ [y] := by rw [hq]; exact take_more l q y hy
      have e1 : (k : Int) - 1 = (q : Int) := by omega
      have hk0 : (0 : Int) < (k : Int) := by omega
      by_cases h32 : y = 32#8
      · have hy2 : (uv y == 32) = true := by subst h32; rfl
        have HR := Lib.hid (show Wire.rstrip (l.take q) = s by rw [← hr.out, ht, h32, rstrip_snoc])
        clear hy hql ht h32
        go_wp2
        go_round
        case rel => exact ⟨q, by omega, by go_num, HR⟩
        case measure => simp [intOf]; omega
      · have hy2 : (uv y == 32) = false := by
          have h2 : uv y ≠ 32 := fun e => h32 (uv_inj (by rw [e]; rfl))
          simpa using h2
        obtain ⟨u', b', -, r'⟩ := CUT.out k (by omega)
        have r0 := r' (by trivial)
        have hc := run_string b'
        have e8 : (l.take k).drop 0 = s := by
          rw [List.drop_zero, ← hr.out]
          exact (rstrip_keep (by rw [ht, List.getLast?_append]; simpa using h32)).symm
        rw [e8] at hc
        clear r' e8 b' hy hql ht h32 hq hz
        go_wp2
        go_ret
        exact ⟨rfl, rfl⟩
end Go.Proofs.YtjcgdenkmmgmfaaDoor
namespace Go.Proofs.YtjcgdenkmmgmfaaDoor
open Go.RowKit Go.Shelf Dsc
set_option linter.unusedVariables false
set_option linter.unusedSimpArgs false
attribute [local go_sem] Oper.semAt_some
theorem upto0_all {l : List (BitVec 8)} (h : ∀ x ∈ l, x ≠ 0#8) (m : List (BitVec 8)) : upto0 (l ++ m) = l ++ upto0 m := by
  unfold upto0
  rw [List.takeWhile_append_of_pos (fun x hx => by simpa using h x hx)]
theorem upto0_cutz {l : List (BitVec 8)} {k : Nat} (h : ∀ x ∈ l.take k, x ≠ 0#8) (hk : l[k]? = some 0#8) : upto0 l = l.take k := by
  obtain ⟨hlt, hv⟩ := List.getElem?_eq_some_iff.1 hk
  have e : l = l.take k ++ (0#8 :: l.drop (k + 1)) := by
    rw [← hv, List.getElem_cons_drop, List.take_append_drop]
  have h2 := upto0_all h (0#8 :: l.drop (k + 1))
  rw [← e] at h2
  rw [h2]
  unfold upto0
  simp
set_option maxRecDepth 20000 in
theorem upto_z (u : Value) (l s : List (BitVec 8)) (w : World) (hv : BytesV w u l) (hl : l.length ≤ 4096) (hs : upto0 l = s) :
    Calls Tryd.prog 62 #[u, .int .u8 0] w fun e w' => e = .returned (.string (strOf s)) ∧ w = w' := by
  have CUT := Lib.hid (fun k hk => BytesV.cut (P := Tryd.prog) (T := 31) (E := 5) Tryd.underlying31 (by kernel_rfl) hv 0 k (Nat.zero_le _) hk)
  have hrun := run_string hv
  obtain ⟨a, c, rfl, -, e1, e2, hrow⟩ := hv
  have ROW := Lib.hid hrow; have HS := Lib.hid hs
  have HRUN := Lib.hid hrun
  obtain ⟨n, hn⟩ : ∃ n, l.length = n := ⟨_, rfl⟩
  have HN := Lib.hid hn
  rw [hn] at CUT HRUN hl ⊢
  have hm2 : (n : Int) ≤ 4096 := by omega
  clear hrow hs e1 e2 hn hrun
  go_enter Tryd.func62, Tryd.ntmps62
  go_wp2
  go_loop [6] (fun i => ∃ k : Nat, k ≤ n ∧ i = .int .i64 k ∧ Hid (∀ x ∈ l.take k, x ≠ 0#8)) (fun i => n - (intOf i).toNat)
  case atStart => exact ⟨0, by omega, rfl, Lib.hid (by simp)⟩
  case round =>
    obtain ⟨k, hk, rfl, hr⟩ := hrel
    by_cases hlt : k < n
    · have hql : k < l.length := by have := HN.out; omega
      obtain ⟨y, hy⟩ : ∃ y, l[k]? = some y := ⟨l[k], List.getElem?_eq_getElem hql⟩
      obtain ⟨b, o', rfl, hcell⟩ := ROW.out.at (i := k) (v := .int .u8 (uv y)) (by rw [by8_get, hy]; rfl)
      by_cases h0 : y = 0#8
      · have hy2 : (uv y == 0) = true := by subst h0; rfl
        obtain ⟨u', b', -, r'⟩ := CUT.out k (by omega)
        have r0 := r' (by trivial)
        have hc := run_string b'
        have e8 : (l.take k).drop 0 = s := by
          rw [List.drop_zero, ← HS.out]
          exact (upto0_cutz hr.out (by rw [hy, h0])).symm
        rw [e8] at hc
        clear r' e8 b' hy hql h0
        go_wp2
        go_ret
        exact ⟨rfl, rfl⟩
      · have hy2 : (uv y == 0) = false := by
          have h2 : uv y ≠ 0 := fun e => h0 (uv_inj (by rw [e]; rfl))
          simpa using h2
        have HR := Lib.hid (show ∀ x ∈ l.take (k + 1), x ≠ 0#8 by
          rw [take_more l k y hy]
          intro x hx
          rcases List.mem_append.1 hx with h | h
          · exact hr.out x h
          · rw [List.mem_singleton.1 h]; exact h0)
        clear hy hql h0
        go_wp2
        go_round
        case rel => exact ⟨k + 1, by omega, by go_num, HR⟩
        case measure => simp [intOf]; omega
    · obtain rfl : k = n := by omega
      have e9 : l = s := by
        have h1 := hr.out
        rw [List.take_of_length_le (Nat.le_of_eq HN.out)] at h1
        have := upto0_all h1 []
        rw [List.append_nil] at this
        rw [← HS.out, this]
        simp [upto0]
      have hc := HRUN.out
      rw [e9] at hc
      clear e9
      go_wp2
      go_ret
      exact ⟨rfl, rfl⟩
end Go.Proofs.YtjcgdenkmmgmfaaDoor
namespace Go.Proofs.YtjcgdenkmmgmfaaDoor
open Go.RowKit Go.Shelf Dsc
set_option linter.unusedVariables false
set_option linter.unusedSimpArgs false
attribute [local go_sem] Oper.semAt_some
theorem byt_ltP {w : World} {v : Value} {l : List (BitVec 8)} (h : BytesV w v l) (hl : 0 < l.length) : ∀ g o n c, v = .slice (some ⟨g, o, none⟩) n c → g < w.heap.size := by
  intro g o n c e
  obtain ⟨a, c', e2, -, -, -, hr⟩ := h
  rw [e] at e2
  injection e2 with e3 e4 e5
  subst e3
  exact hr.lt (by intro hn; have h9 := congrArg List.length hn; rw [by8_length, List.length_nil] at h9; omega)
theorem wpT_load_rowM {P : Program} {ops : Array Oper} {Q : Exit → Act → World → Prop} {S : World → Prop} {a : Act} {w : World} {i : Nat} {r : PlanT} {o : Oper} (ho : ops[i]? = some o) (hw : Region.wanted o (yielded ops a.tmps) = true) (ty : TypeId) (x : Operand) (hop : o.op = .load ty x)
    (g : Nat) (hx : a.eval x = .pointer (some ⟨g, 0, none⟩)) (t : TypeId) (cs : Array Value) (fr : Nat × Nat) (d : TypeDesc) (hg : ∀ x, S x → x.heap[g]? = some (.cells cs t fr))
    (hu : P.underlying ty = some d) (hd : (match d with | .struct _ | .array _ _ => true | _ => false) = true) (hi : (P.info? ty).map (·.size) = some cs.size)
    (h : wpT P ops Q S r (a.put o.dst (.agg cs)) w) : wpT P ops Q S (.firm i r) a w := by
  refine ⟨o, ho, ?_⟩
  rw [if_pos hw]
  refine ⟨.agg cs, fun x hS => ?_, h⟩
  unfold execOp
  simp only [hop, hx, Instr.loadAt, Instr.sureAddr, Sem.run_bind, Sem.run_pure, Result.andThen_ok, run_loadVar_row x g t ty cs fr d (hg x hS) hu hd hi]
theorem BytesV.keepTB {B : Nat → Prop} {w : World} {v : Value} {l : List (BitVec 8)} (h : BytesV w v l) (y : KeepT B w) (hn : Off B v) : BytesV y.val v l := by
  obtain ⟨a, c, rfl, h0, h1, h2, h3⟩ := h
  refine ⟨a, c, rfl, h0, h1, h2, ?_⟩
  rcases h3 with h | ⟨b, o, rfl, h⟩
  · exact .inl h
  · refine .inr ⟨b, o, rfl, fun i hi => ?_⟩
    rw [List.getElem?_eq_getElem hi]
    exact y.cell ((h i hi).trans (List.getElem?_eq_getElem hi)) (hn b o _ _ rfl)
set_option maxHeartbeats 6400000 in
set_option maxRecDepth 20000 in
theorem rParse_at (v : Value) (b : List (BitVec 8)) (Z : Bool) (w : World) (hv : BytesV w v b) (hb : b.length = 1024) (hz : prs b = Z) :
    Calls Tryd.prog 38 #[v] w fun e w' => e = .returned (.tuple #[.agg (rdR b).cells.toArray, .bool Z]) ∧ Below w.heap.size w w' := by
  obtain ⟨gv, ov, cv, rfl⟩ := hv.shapeAt (by omega)
  have FIT := Lib.hid (rdR_fit hb)
  have HZ := Lib.hid (show ((rdR b).ok && ((rdR b).bytes == b)) = Z from hz)
  obtain ⟨r, hr⟩ : ∃ r, rdR b = r := ⟨_, rfl⟩
  rw [hr] at FIT HZ ⊢
  obtain ⟨x0, x1, rf, sc, po, ct, qu, sv, sb, ad⟩ := r
  have e0 : b.getD 0 0#8 = x0 := congrArg Rec.tr hr
  have e1 : b.getD 1 0#8 = x1 := congrArg Rec.fa hr
  have e2 : (b.getD 2 0#8 == 1#8) = rf := congrArg Rec.rf hr
  have e3 : (b.getD 3 0#8 == 1#8) = sc := congrArg Rec.sc hr
  have e4 : (num b 4 2).setWidth 16 = po := congrArg Rec.po hr
  have e5 : (num b 6 2).setWidth 16 = ct := congrArg Rec.ct hr
  have e6 : (num b 8 2).setWidth 16 = qu := congrArg Rec.qu hr
  have e7 : Wire.rstrip (cut b 32 32) = sv := congrArg Rec.sv hr
  have e8 : upto0 (cut b 256 256) = sb := congrArg Rec.sb hr
  have e9 : Wire.rstrip (cut b 512 256) = ad := congrArg Rec.ad hr
  clear hr hz
  have hat : ∀ (i : Nat) (x : BitVec 8), i < 1024 → b.getD i 0#8 = x → b[i]? = some x := fun i x hi e => by
    rw [List.getD_eq_getElem?_getD, List.getElem?_eq_getElem (by omega)] at e
    rw [List.getElem?_eq_getElem (by omega)]; exact congrArg some e
  obtain ⟨x2, hx2⟩ : ∃ x, b.getD 2 0#8 = x := ⟨_, rfl⟩
  obtain ⟨x3, hx3⟩ : ∃ x, b.getD 3 0#8 = x := ⟨_, rfl⟩
  rw [hx2, ← uv_one] at e2; rw [hx3, ← uv_one] at e3
  have b0 := BytesV.cellAt hv (hat 0 x0 (by decide) e0)
  have b1 := BytesV.cellAt hv (hat 1 x1 (by decide) e1)
  have b2 := BytesV.cellAt hv (hat 2 x2 (by decide) hx2)
  have b3 := BytesV.cellAt hv (hat 3 x3 (by decide) hx3)
  obtain ⟨u4, hu4, hc4, -⟩ := BytesV.cut (P := Tryd.prog) (T := 31) (E := 5) Tryd.underlying31 (by kernel_rfl) hv 4 6 (by decide) (by omega)
  obtain ⟨u6, hu6, hc6, -⟩ := BytesV.cut (P := Tryd.prog) (T := 31) (E := 5) Tryd.underlying31 (by kernel_rfl) hv 6 8 (by decide) (by omega)
  obtain ⟨u8, hu8, hc8, -⟩ := BytesV.cut (P := Tryd.prog) (T := 31) (E := 5) Tryd.underlying31 (by kernel_rfl) hv 8 10 (by decide) (by omega)
  obtain ⟨u32, hu32, hc32, -⟩ := BytesV.cut (P := Tryd.prog) (T := 31) (E := 5) Tryd.underlying31 (by kernel_rfl) hv 32 64 (by decide) (by omega)
  obtain ⟨u256, hu256, hc256, -⟩ := BytesV.cut (P := Tryd.prog) (T := 31) (E := 5) Tryd.underlying31 (by kernel_rfl) hv 256 512 (by decide) (by omega)
  obtain ⟨u512, hu512, hc512, -⟩ := BytesV.cut (P := Tryd.prog) (T := 31) (E := 5) Tryd.underlying31 (by kernel_rfl) hv 512 768 (by decide) (by omega)
  replace hc4 : ∀ w', (Instr.slice 31 (.slice (some ⟨gv, ov, none⟩) 1024 cv) (some (.int .i64 4)) (some (.int .i64 6)) none).run Tryd.prog w' = .ok u4 w' := by rw [← hb]; exact hc4
  replace hc6 : ∀ w', (Instr.slice 31 (.slice (some ⟨gv, ov, none⟩) 1024 cv) (some (.int .i64 6)) (some (.int .i64 8)) none).run Tryd.prog w' = .ok u6 w' := by rw [← hb]; exact hc6
  replace hc8 : ∀ w', (Instr.slice 31 (.slice (some ⟨gv, ov, none⟩) 1024 cv) (some (.int .i64 8)) (some (.int .i64 10)) none).run Tryd.prog w' = .ok u8 w' := by rw [← hb]; exact hc8
  replace hc32 : ∀ w', (Instr.slice 31 (.slice (some ⟨gv, ov, none⟩) 1024 cv) (some (.int .i64 32)) (some (.int .i64 64)) none).run Tryd.prog w' = .ok u32 w' := by rw [← hb]; exact hc32
  replace hc256 : ∀ w', (Instr.slice 31 (.slice (some ⟨gv, ov, none⟩) 1024 cv) (some (.int .i64 256)) (some (.int .i64 512)) none).run Tryd.prog w' = .ok u256 w' := by rw [← hb]; exact hc256
  replace hc512 : ∀ w', (Instr.slice 31 (.slice (some ⟨gv, ov, none⟩) 1024 cv) (some (.int .i64 512)) (some (.int .i64 768)) none).run Tryd.prog w' = .ok u512 w' := by rw [← hb]; exact hc512
  rw [cut_take b 4 2] at hu4; rw [cut_take b 6 2] at hu6; rw [cut_take b 8 2] at hu8; rw [cut_take b 32 32] at hu32; rw [cut_take b 256 256] at hu256; rw [cut_take b 512 256] at hu512
  obtain ⟨n4, hn4⟩ : ∃ z, num b 4 2 = z := ⟨_, rfl⟩
  obtain ⟨n6, hn6⟩ : ∃ z, num b 6 2 = z := ⟨_, rfl⟩
  obtain ⟨n8, hn8⟩ : ∃ z, num b 8 2 = z := ⟨_, rfl⟩
  rw [hn4] at e4; rw [hn6] at e5; rw [hn8] at e6
  have V4 := Lib.hid (fun w' (h : Below w.heap.size w w') => rnumber_at u4 (cut b 4 2) n4 w' (hu4.below h) (by rw [cut_len (by omega)]; decide) hn4)
  have V6 := Lib.hid (fun w' (h : Below w.heap.size w w') => rnumber_at u6 (cut b 6 2) n6 w' (hu6.below h) (by rw [cut_len (by omega)]; decide) hn6)
  have V8 := Lib.hid (fun w' (h : Below w.heap.size w w') => rnumber_at u8 (cut b 8 2) n8 w' (hu8.below h) (by rw [cut_len (by omega)]; decide) hn8)
  have P1 := Lib.hid (fun w' (h : Below w.heap.size w w') => upto_sp u32 (cut b 32 32) sv w' (hu32.below h) (by rw [cut_len (by omega)]; decide) e7)
  have P2 := Lib.hid (fun w' (h : Below w.heap.size w w') => upto_z u256 (cut b 256 256) sb w' (hu256.below h) (by rw [cut_len (by omega)]; decide) e8)
  have P3 := Lib.hid (fun w' (h : Below w.heap.size w w') => upto_sp u512 (cut b 512 256) ad w' (hu512.below h) (by rw [cut_len (by omega)]; decide) e9)
  have E4 := Lib.hid e4; have E5 := Lib.hid e5; have E6 := Lib.hid e6
  clear e4 e5 e6 e7 e8 e9 hn4 hn6 hn8 hu4 hu6 hu8 hu32 hu256 hu512
  rw [hb]
  have VV := Lib.hid (show BytesV w (.slice (some ⟨gv, ov, none⟩) 1024 cv) b by rw [← hb]; exact hv)
  have GN := Lib.hid (show Off (fun k => k = w.heap.size) (.slice (some ⟨gv, ov, none⟩) 1024 cv) from fun g o n c e hg => by have := byt_ltP VV.out (by omega) g o n c e; omega)
  clear e0 e1 hx2 hx3 hat hb hv
  obtain ⟨V, hV⟩ : ∃ V, V = w.alloc (.cells #[.int .u8 0, .int .u8 0, .bool false, .bool false, .int .u16 0, .int .u16 0, .int .u16 0, .string ⟨#[]⟩, .string ⟨#[]⟩, .string ⟨#[]⟩] 30) := ⟨_, rfl⟩
  have D := Lib.hid (show Below w.heap.size w V by rw [hV]; exact gr_alloc w _)
  have Z2 := Lib.hid (show V.heap[w.heap.size]? = some (.cells #[.int .u8 0, .int .u8 0, .bool false, .bool false, .int .u16 0, .int .u16 0, .int .u16 0, .string ⟨#[]⟩, .string ⟨#[]⟩, .string ⟨#[]⟩] 30 (0, 0)) by rw [hV]; exact heap_alloc_new w _)
  have HV := Lib.hid hV
  replace VV := Lib.hid (VV.out.below D.out)
  have f0 : V.cell? ⟨gv, ov + 0, none⟩ = some (.int .u8 (uv x0)) := below_cellE D.out b0
  have f1 : V.cell? ⟨gv, ov + 1, none⟩ = some (.int .u8 (uv x1)) := below_cellE D.out b1
  have f2 : V.cell? ⟨gv, ov + 2, none⟩ = some (.int .u8 (uv x2)) := below_cellE D.out b2
  have f3 : V.cell? ⟨gv, ov + 3, none⟩ = some (.int .u8 (uv x3)) := below_cellE D.out b3
  rw [Nat.add_zero] at f0
  clear hV b0 b1 b2 b3
  have q0 : ∀ y : KeepT nowhere V, y.val.cell? ⟨gv, ov, none⟩ = some (.int .u8 (uv x0)) := fun y => y.cell f0 id
  have q1 : ∀ y : KeepT nowhere V, y.val.cell? ⟨gv, ov + 1, none⟩ = some (.int .u8 (uv x1)) := fun y => y.cell f1 id
  have q2 : ∀ y : KeepT nowhere V, y.val.cell? ⟨gv, ov + 2, none⟩ = some (.int .u8 (uv x2)) := fun y => y.cell f2 id
  have q3 : ∀ y : KeepT nowhere V, y.val.cell? ⟨gv, ov + 3, none⟩ = some (.int .u8 (uv x3)) := fun y => y.cell f3 id
  clear f0 f1 f2 f3
  go_enter Tryd.func38, Tryd.ntmps38
  go_upto_region 1 with fail
  rw [← HV.out]
  clear HV
  refine wp_region_planW nowhere [(true, 0), (true, 1), (true, 2), (true, 3), (true, 4), (true, 5), (true, 6), (true, 7), (true, 8), (true, 9), (true, 10), (true, 11), (true, 12), (true, 13), (true, 14), (false, 15), (false, 16)] (by kernel_rfl) (by kernel_rfl) (by intro c a d v w h; cases d <;> exact h) ?_
  intro W1 K1 C1
  repeat (refine wpS_firm rfl (fun K hK => ?_); simp only [Keep]; go_simp; refine hK _ ?_; clear hK K)
  clear q0 q1 q2 q3
  refine wpS_chain rfl ?_
  go_wp2
  refine ⟨K1.out.alloc _, ?_⟩
  have ZQ := Lib.hid (heap_alloc_new W1 (.cells #[.int .u8 0, .int .u8 0, .bool false, .bool false, .int .u16 0, .int .u16 0, .int .u16 0, .string ⟨#[]⟩, .string ⟨#[]⟩, .string ⟨#[]⟩] 30))
  have QL := Lib.hid (show V.heap.size ≤ W1.heap.size from C1.out.size)
  obtain ⟨w2, hw2⟩ : ∃ X, X = W1.alloc (.cells #[.int .u8 0, .int .u8 0, .bool false, .bool false, .int .u16 0, .int .u16 0, .int .u16 0, .string ⟨#[]⟩, .string ⟨#[]⟩, .string ⟨#[]⟩] 30) := ⟨_, rfl⟩
  have hb2 : Below W1.heap.size W1 w2 := (by rw [hw2]; exact gr_alloc _ _)
  rw [← hw2] at ZQ ⊢
  have C2 := Lib.hid (gr_tr C1.out hb2)
  have K2 := Lib.hid (K1.out.below hb2)
  clear hb2 hw2
  obtain ⟨q, hq⟩ : ∃ q, W1.heap.size = q := ⟨_, rfl⟩
  rw [hq] at ZQ QL ⊢
  clear hq
  refine wpS_chain rfl ?_
  refine wpList_store_row rfl 30 (.tmp 4) (.tmp 19) rfl q #[.int .u8 (uv x0), .int .u8 (uv x1), .bool rf, .bool sc, .int .u16 0, .int .u16 0, .int .u16 0, .string ⟨#[]⟩, .string ⟨#[]⟩, .string ⟨#[]⟩] rfl (by first | rfl | (simp only [e2, e3]; rfl)) 30 #[.int .u8 0, .int .u8 0, .bool false, .bool false, .int .u16 0, .int .u16 0, .int .u16 0, .string ⟨#[]⟩, .string ⟨#[]⟩, .string ⟨#[]⟩] ZQ.out (by kernel_rfl) rfl (by simp [Value.oneCell']) ?_
  have ZR2 := Lib.hid (setRow_heap _ _ _ #[.int .u8 (uv x0), .int .u8 (uv x1), .bool rf, .bool sc, .int .u16 0, .int .u16 0, .int .u16 0, .string ⟨#[]⟩, .string ⟨#[]⟩, .string ⟨#[]⟩] _ _ ZQ.out)
  have C6 := Lib.hid (below_setRow C2.out QL.out #[.int .u8 (uv x0), .int .u8 (uv x1), .bool rf, .bool sc, .int .u16 0, .int .u16 0, .int .u16 0, .string ⟨#[]⟩, .string ⟨#[]⟩, .string ⟨#[]⟩])
  have K6 := Lib.hid (K2.out.base (below_setRow (Below.refl _ _) (show V.heap.size ≤ q from QL.out) #[.int .u8 (uv x0), .int .u8 (uv x1), .bool rf, .bool sc, .int .u16 0, .int .u16 0, .int .u16 0, .string ⟨#[]⟩, .string ⟨#[]⟩, .string ⟨#[]⟩]))
  go_wp2
  refine ⟨K6.out, ?_⟩
  unfold wpS
  obtain ⟨w3, hw3⟩ : ∃ X, X = w2.setRow q #[.int .u8 (uv x0), .int .u8 (uv x1), .bool rf, .bool sc, .int .u16 0, .int .u16 0, .int .u16 0, .string ⟨#[]⟩, .string ⟨#[]⟩, .string ⟨#[]⟩] := ⟨_, rfl⟩
  rw [← hw3] at ZR2 C6 ⊢
  have Z23 := Lib.hid (blk_below Z2.out (C6.out))
  clear hw3 K6 K2 K1 C2 C1 ZQ
  have L3 := Lib.hid (gr_tr D.out C6.out)
  go_upto_region 2 with fail
  refine wp_region_planW (fun k => k = q) [(true, 0), (true, 1), (true, 4), (true, 5), (true, 8), (true, 9), (false, 2), (true, 3), (true, 12), (false, 6), (true, 7), (false, 10), (true, 11), (false, 13), (true, 14), (false, 15), (true, 16), (false, 17)] (by kernel_rfl) (by kernel_rfl) (by intro c a d v w h; cases d <;> exact h) ?_
  intro W4 K4 C4
  have Q4 := Lib.hid (blk_below ZR2.out C4.out)
  have L4 := Lib.hid (gr_tr L3.out C4.out)
  have e4 := E4.out
  have e5 := E5.out
  have e6 := E6.out
  repeat (refine wpS_firm rfl (fun K hK => ?_); simp only [Keep]; go_simp; refine hK _ ?_; clear hK K)
  clear hc4 hc6 hc8
  refine wpS_chain rfl ?_
  go_wp2_with (go_at_call 37; go_loud (refine (V4.out _ L4.out).mono ?_; rintro e wz ⟨rfl, rfl⟩))
  refine ⟨K4.out, ?_⟩
  (refine wpS_firm rfl (fun K hK => ?_); simp only [Keep]; go_simp; refine hK _ ?_; clear hK K)
  (refine wpS_firm rfl (fun K hK => ?_); simp only [Keep]; go_simp; refine hK _ ?_; clear hK K)
  refine wpS_chain rfl ?_
  go_wp2_with (go_at_call 37; go_loud (refine (V6.out _ L4.out).mono ?_; rintro e wz ⟨rfl, rfl⟩))
  refine ⟨K4.out, ?_⟩
  (refine wpS_firm rfl (fun K hK => ?_); simp only [Keep]; go_simp; refine hK _ ?_; clear hK K)
  refine wpS_chain rfl ?_
  go_wp2_with (go_at_call 37; go_loud (refine (V8.out _ L4.out).mono ?_; rintro e wz ⟨rfl, rfl⟩))
  refine ⟨K4.out, ?_⟩
  (refine wpS_firm rfl (fun K hK => ?_); simp only [Keep]; go_simp; refine hK _ ?_; clear hK K)
  clear e4 e5 e6
  have c4 : W4.cell? ⟨q, 4, none⟩ = some (.int .u16 0) := (cell_of_row _ _ 4 _ _ _ Q4.out).trans rfl
  have c5 : W4.cell? ⟨q, 5, none⟩ = some (.int .u16 0) := (cell_of_row _ _ 5 _ _ _ Q4.out).trans rfl
  have c6 : W4.cell? ⟨q, 6, none⟩ = some (.int .u16 0) := (cell_of_row _ _ 6 _ _ _ Q4.out).trans rfl
  have z4 := frozen_of_row _ _ 4 _ _ Q4.out
  have z5 := frozen_of_row _ _ 5 _ _ Q4.out
  have z6 := frozen_of_row _ _ 6 _ _ Q4.out
  refine wpS_chain rfl ?_
  go_wp2
  refine ⟨K4.out.put (p := ⟨q, 4, none⟩) rfl _, ?_⟩
  (refine wpS_firm rfl (fun K hK => ?_); simp only [Keep]; go_simp; refine hK _ ?_; clear hK K)
  refine wpS_chain rfl ?_
  go_wp2
  refine ⟨(K4.out.put (p := ⟨q, 4, none⟩) rfl _).put (p := ⟨q, 5, none⟩) rfl _, ?_⟩
  (refine wpS_firm rfl (fun K hK => ?_); simp only [Keep]; go_simp; refine hK _ ?_; clear hK K)
  refine wpS_chain rfl ?_
  go_wp2
  refine ⟨((K4.out.put (p := ⟨q, 4, none⟩) rfl _).put (p := ⟨q, 5, none⟩) rfl _).put (p := ⟨q, 6, none⟩) rfl _, ?_⟩
  unfold wpS
  clear c4 c5 c6 z4 z5 z6
  obtain ⟨w5, hw5⟩ : ∃ X, X = ((W4.setCell ⟨q, 4, none⟩ (.int .u16 (uv po))).setCell ⟨q, 5, none⟩ (.int .u16 (uv ct))).setCell ⟨q, 6, none⟩ (.int .u16 (uv qu)) := ⟨_, rfl⟩
  have Q5 := Lib.hid (show w5.heap[q]? = some (.cells #[.int .u8 (uv x0), .int .u8 (uv x1), .bool rf, .bool sc, .int .u16 (uv po), .int .u16 (uv ct), .int .u16 (uv qu), .string ⟨#[]⟩, .string ⟨#[]⟩, .string ⟨#[]⟩] 30 (0, 0)) by rw [hw5]; exact heap_setCell_same _ _ _ _ _ _ (heap_setCell_same _ _ _ _ _ _ (heap_setCell_same _ _ _ _ _ _ Q4.out)))
  have C5 := Lib.hid (show Below V.heap.size V w5 by rw [hw5]; exact (((gr_tr C6.out C4.out).setCell (p := ⟨q, 4, none⟩) QL.out _).setCell (p := ⟨q, 5, none⟩) QL.out _).setCell (p := ⟨q, 6, none⟩) QL.out _)
  rw [← hw5]
  clear hw5 K4 C4 Q4 L4 L3 V4 V6 V8 ZR2 Z23 C6
  have L5 := Lib.hid (gr_tr D.out C5.out)
  go_upto_region 3 with fail
  refine wp_region_planW (fun k => k = q) [(true, 0), (true, 1), (true, 3), (true, 4), (true, 6), (true, 7), (false, 2), (true, 9), (false, 5), (false, 8), (false, 10), (true, 11), (false, 12), (true, 13), (false, 14)] (by kernel_rfl) (by kernel_rfl) (by intro c a d v w h; cases d <;> exact h) ?_
  intro W7 K7 C7
  have Q7 := Lib.hid (blk_below Q5.out C7.out)
  have L7 := Lib.hid (gr_tr L5.out C7.out)
  repeat (refine wpS_firm rfl (fun K hK => ?_); simp only [Keep]; go_simp; refine hK _ ?_; clear hK K)
  clear hc32 hc256 hc512
  refine wpS_chain rfl ?_
  go_wp2_with (go_at_call 62; go_loud (refine (P1.out _ L7.out).mono ?_; rintro e wz ⟨rfl, rfl⟩))
  refine ⟨K7.out, ?_⟩
  (refine wpS_firm rfl (fun K hK => ?_); simp only [Keep]; go_simp; refine hK _ ?_; clear hK K)
  refine wpS_chain rfl ?_
  go_wp2_with (go_at_call 62; go_loud (refine (P2.out _ L7.out).mono ?_; rintro e wz ⟨rfl, rfl⟩))
  refine ⟨K7.out, ?_⟩
  refine wpS_chain rfl ?_
  go_wp2_with (go_at_call 62; go_loud (refine (P3.out _ L7.out).mono ?_; rintro e wz ⟨rfl, rfl⟩))
  refine ⟨K7.out, ?_⟩
  have c7 : W7.cell? ⟨q, 7, none⟩ = some (.string ⟨#[]⟩) := (cell_of_row _ _ 7 _ _ _ Q7.out).trans rfl
  have c8 : W7.cell? ⟨q, 8, none⟩ = some (.string ⟨#[]⟩) := (cell_of_row _ _ 8 _ _ _ Q7.out).trans rfl
  have c9 : W7.cell? ⟨q, 9, none⟩ = some (.string ⟨#[]⟩) := (cell_of_row _ _ 9 _ _ _ Q7.out).trans rfl
  have z7 := frozen_of_row _ _ 7 _ _ Q7.out
  have z8 := frozen_of_row _ _ 8 _ _ Q7.out
  have z9 := frozen_of_row _ _ 9 _ _ Q7.out
  refine wpS_chain rfl ?_
  go_wp2
  refine ⟨K7.out.put (p := ⟨q, 7, none⟩) rfl _, ?_⟩
  (refine wpS_firm rfl (fun K hK => ?_); simp only [Keep]; go_simp; refine hK _ ?_; clear hK K)
  refine wpS_chain rfl ?_
  go_wp2
  refine ⟨(K7.out.put (p := ⟨q, 7, none⟩) rfl _).put (p := ⟨q, 8, none⟩) rfl _, ?_⟩
  (refine wpS_firm rfl (fun K hK => ?_); simp only [Keep]; go_simp; refine hK _ ?_; clear hK K)
  refine wpS_chain rfl ?_
  go_wp2
  refine ⟨((K7.out.put (p := ⟨q, 7, none⟩) rfl _).put (p := ⟨q, 8, none⟩) rfl _).put (p := ⟨q, 9, none⟩) rfl _, ?_⟩
  unfold wpS
  clear c7 c8 c9 z7 z8 z9
  obtain ⟨w1, hw1⟩ : ∃ X, X = ((W7.setCell ⟨q, 7, none⟩ (.string (strOf sv))).setCell ⟨q, 8, none⟩ (.string (strOf sb))).setCell ⟨q, 9, none⟩ (.string (strOf ad)) := ⟨_, rfl⟩
  have Q1 := Lib.hid (show w1.heap[q]? = some (.cells #[.int .u8 (uv x0), .int .u8 (uv x1), .bool rf, .bool sc, .int .u16 (uv po), .int .u16 (uv ct), .int .u16 (uv qu), .string (strOf sv), .string (strOf sb), .string (strOf ad)] 30 (0, 0)) by rw [hw1]; exact heap_setCell_same _ _ _ _ _ _ (heap_setCell_same _ _ _ _ _ _ (heap_setCell_same _ _ _ _ _ _ Q7.out)))
  have hq3 := Lib.hid (show Below V.heap.size V w1 by rw [hw1]; exact (((gr_tr C5.out C7.out).setCell (p := ⟨q, 7, none⟩) QL.out _).setCell (p := ⟨q, 8, none⟩) QL.out _).setCell (p := ⟨q, 9, none⟩) QL.out _)
  rw [← hw1]
  clear hw1 K7 C7 Q7 L7 L5 P1 P2 P3 Q5 C5
  have QN := Lib.hid (show q ≠ w.heap.size by have := (Array.getElem?_eq_some_iff.1 Z2.out).1; have := QL.out; omega)
  have D1 := Lib.hid (gr_tr D.out hq3.out)
  have Y1 := Lib.hid (blk_below Z2.out hq3.out)
  have VV1 := Lib.hid (VV.out.below hq3.out)
  clear hq3 Z2 D QL
  obtain ⟨vb, hvb⟩ : ∃ z, ({ tr := x0, fa := x1, rf := rf, sc := sc, po := po, ct := ct, qu := qu, sv := sv, sb := sb, ad := ad } : Rec).ok = z := ⟨_, rfl⟩
  obtain ⟨BR, hBR⟩ : ∃ z, ({ tr := x0, fa := x1, rf := rf, sc := sc, po := po, ct := ct, qu := qu, sv := sv, sb := sb, ad := ad } : Rec).bytes = z := ⟨_, rfl⟩
  have VAL : Hid (∀ w, Calls Tryd.prog 11 #[.agg #[.int .u8 (uv x0), .int .u8 (uv x1), .bool rf, .bool sc, .int .u16 (uv po), .int .u16 (uv ct), .int .u16 (uv qu), .string (strOf sv), .string (strOf sb), .string (strOf ad)]] w fun e w' => e = .returned (.bool vb) ∧ Below w.heap.size w w') := (have h := fun w => rValid_at ({ tr := x0, fa := x1, rf := rf, sc := sc, po := po, ct := ct, qu := qu, sv := sv, sb := sb, ad := ad } : Rec) vb w FIT.out hvb; Lib.hid h)
  have REC : Hid (vb = true → ∀ w, Calls Tryd.prog 31 #[.agg #[.int .u8 (uv x0), .int .u8 (uv x1), .bool rf, .bool sc, .int .u16 (uv po), .int .u16 (uv ct), .int .u16 (uv qu), .string (strOf sv), .string (strOf sb), .string (strOf ad)]] w fun e w' => ∃ u, e = .returned u ∧ BytesV w' u BR ∧ (∀ k, u.ownBlock = some k → w.heap.size ≤ k) ∧ Below w.heap.size w w') := Lib.hid (fun h w => by
    have hok := hvb.trans h
    have hrec := rRecord_at ({ tr := x0, fa := x1, rf := rf, sc := sc, po := po, ct := ct, qu := qu, sv := sv, sb := sb, ad := ad } : Rec) w hok
    refine Calls.mono hrec ?_
    rintro e w' ⟨u, h1, h2, h3⟩
    refine ⟨u, h1, ?_, fun k hk => (h2.lt k hk).1, h3⟩
    rw [hBR] at h2
    refine BytesV.of_own (l := BR) (base := w.heap.size) (e := 5) ?_
    rw [← hBR, bytes_len hok, hBR]; exact h2)
  have HZ2 := Lib.hid (show (vb && (BR == b)) = Z by rw [← hvb, ← hBR]; exact HZ.out)
  clear hvb hBR HZ FIT
  have q0 : ∀ x, Keep (fun k => k = w.heap.size) w1 x → x.heap[q]? = some (.cells #[.int .u8 (uv x0), .int .u8 (uv x1), .bool rf, .bool sc, .int .u16 (uv po), .int .u16 (uv ct), .int .u16 (uv qu), .string (strOf sv), .string (strOf sb), .string (strOf ad)] 30 (0, 0)) := fun x hx => Keep.blkB hx Q1.out QN.out
  go_upto_region 4 with fail
  cases vb
  · have hz : Z = false := by rw [← HZ2.out]; rfl
    subst hz
    refine wp_region_planT (fun k => k = w.heap.size) (.firm 0 (.firm 1 (.one 2 (.firm 3 (.firm 4 (.firm 7 (.firm 8 (.one 5 (.two 6 (.firm 9 (.firm 10 (.one 11 (.firm 12 .done)))) 11 (.one 6 (.firm 9 (.firm 10 (.firm 12 .done))))))))))))) (by kernel_rfl) (by kernel_rfl) (by intro c a d v w h; cases d <;> exact h) ?_
    intro W1 K1 C1
    refine wpT_load_rowM rfl rfl 30 (.tmp 4) rfl q rfl 30 #[.int .u8 (uv x0), .int .u8 (uv x1), .bool rf, .bool sc, .int .u16 (uv po), .int .u16 (uv ct), .int .u16 (uv qu), .string (strOf sv), .string (strOf sb), .string (strOf ad)] (0, 0) _ q0 Tryd.underlying30 rfl (by kernel_rfl) ?_
    refine wpT_load_rowM rfl rfl 30 (.tmp 4) rfl q rfl 30 #[.int .u8 (uv x0), .int .u8 (uv x1), .bool rf, .bool sc, .int .u16 (uv po), .int .u16 (uv ct), .int .u16 (uv qu), .string (strOf sv), .string (strOf sb), .string (strOf ad)] (0, 0) _ q0 Tryd.underlying30 rfl (by kernel_rfl) ?_
    refine wpT_chain rfl ?_
    go_wp2_with (go_at_call 11; go_loud (refine (VAL.out _).mono ?_; rintro e w2 ⟨rfl, hw⟩; have C2 := Lib.hid (gr_tr C1.out hw); have K2 := Lib.hid (K1.out.below hw); clear hw))
    refine ⟨K2.out, ?_⟩
    (refine wpT_firm rfl (fun K hK => ?_); simp only [Keep]; go_simp; refine hK _ ?_; clear hK K)
    (refine wpT_firm rfl (fun K hK => ?_); simp only [Keep]; go_simp; refine hK _ ?_; clear hK K)
    (refine wpT_firm rfl (fun K hK => ?_); simp only [Keep]; go_simp; refine hK _ ?_; clear hK K)
    (refine wpT_firm rfl (fun K hK => ?_); simp only [Keep]; go_simp; refine hK _ ?_; clear hK K)
    refine wpT_chain rfl ?_
    go_wp2
    refine ⟨K2.out, ?_⟩
    refine wpT_two rfl rfl ?_ ?_
    · go_wp2
      refine ⟨K2.out, ?_⟩
      (refine wpT_firm rfl (fun K hK => ?_); simp only [Keep]; go_simp; refine hK _ ?_; clear hK K)
      (refine wpT_firm rfl (fun K hK => ?_); simp only [Keep]; go_simp; refine hK _ ?_; clear hK K)
      have Y2 := Lib.hid (blk_below Y1.out C2.out)
      refine wpT_chain rfl ?_
      refine wpList_store_row rfl 30 (.tmp 2) (.tmp 47) rfl w.heap.size #[.int .u8 (uv x0), .int .u8 (uv x1), .bool rf, .bool sc, .int .u16 (uv po), .int .u16 (uv ct), .int .u16 (uv qu), .string (strOf sv), .string (strOf sb), .string (strOf ad)] rfl rfl 30 #[.int .u8 0, .int .u8 0, .bool false, .bool false, .int .u16 0, .int .u16 0, .int .u16 0, .string ⟨#[]⟩, .string ⟨#[]⟩, .string ⟨#[]⟩] Y2.out (by kernel_rfl) rfl (by simp [Value.oneCell']) ?_
      have Y3 := Lib.hid (setRow_heap _ _ _ #[.int .u8 (uv x0), .int .u8 (uv x1), .bool rf, .bool sc, .int .u16 (uv po), .int .u16 (uv ct), .int .u16 (uv qu), .string (strOf sv), .string (strOf sb), .string (strOf ad)] _ _ Y2.out)
      have D3 := Lib.hid (below_setRow (gr_tr D1.out C2.out) (Nat.le_refl _) #[.int .u8 (uv x0), .int .u8 (uv x1), .bool rf, .bool sc, .int .u16 (uv po), .int .u16 (uv ct), .int .u16 (uv qu), .string (strOf sv), .string (strOf sb), .string (strOf ad)])
      have K9 := Lib.hid (K2.out.row (g := w.heap.size) rfl #[.int .u8 (uv x0), .int .u8 (uv x1), .bool rf, .bool sc, .int .u16 (uv po), .int .u16 (uv ct), .int .u16 (uv qu), .string (strOf sv), .string (strOf sb), .string (strOf ad)])
      go_wp2
      refine ⟨K9.out, ?_⟩
      (refine wpT_firm rfl (fun K hK => ?_); simp only [Keep]; go_simp; refine hK _ ?_; clear hK K)
      unfold wpT
      go_wp2
      exact bodyPost_ret (results_row_tmp rfl _ _ w.heap.size 30 #[.int .u8 (uv x0), .int .u8 (uv x1), .bool rf, .bool sc, .int .u16 (uv po), .int .u16 (uv ct), .int .u16 (uv qu), .string (strOf sv), .string (strOf sb), .string (strOf ad)] (0, 0) _ rfl Y3.out Tryd.underlying30 rfl (by kernel_rfl)) rfl ⟨rfl, D3.out⟩
    · have Y2 := Lib.hid (blk_below Y1.out C2.out)
      refine wpList_store_row rfl 30 (.tmp 2) (.tmp 47) rfl w.heap.size #[.int .u8 (uv x0), .int .u8 (uv x1), .bool rf, .bool sc, .int .u16 (uv po), .int .u16 (uv ct), .int .u16 (uv qu), .string (strOf sv), .string (strOf sb), .string (strOf ad)] rfl rfl 30 #[.int .u8 0, .int .u8 0, .bool false, .bool false, .int .u16 0, .int .u16 0, .int .u16 0, .string ⟨#[]⟩, .string ⟨#[]⟩, .string ⟨#[]⟩] Y2.out (by kernel_rfl) rfl (by simp [Value.oneCell']) ?_
      have Y3 := Lib.hid (setRow_heap _ _ _ #[.int .u8 (uv x0), .int .u8 (uv x1), .bool rf, .bool sc, .int .u16 (uv po), .int .u16 (uv ct), .int .u16 (uv qu), .string (strOf sv), .string (strOf sb), .string (strOf ad)] _ _ Y2.out)
      have D3 := Lib.hid (below_setRow (gr_tr D1.out C2.out) (Nat.le_refl _) #[.int .u8 (uv x0), .int .u8 (uv x1), .bool rf, .bool sc, .int .u16 (uv po), .int .u16 (uv ct), .int .u16 (uv qu), .string (strOf sv), .string (strOf sb), .string (strOf ad)])
      have K9 := Lib.hid (K2.out.row (g := w.heap.size) rfl #[.int .u8 (uv x0), .int .u8 (uv x1), .bool rf, .bool sc, .int .u16 (uv po), .int .u16 (uv ct), .int .u16 (uv qu), .string (strOf sv), .string (strOf sb), .string (strOf ad)])
      go_wp2
      refine ⟨K9.out, ?_⟩
      refine wpT_chain rfl ?_
      go_wp2
      refine ⟨K9.out, ?_⟩
      (refine wpT_firm rfl (fun K hK => ?_); simp only [Keep]; go_simp; refine hK _ ?_; clear hK K)
      (refine wpT_firm rfl (fun K hK => ?_); simp only [Keep]; go_simp; refine hK _ ?_; clear hK K)
      (refine wpT_firm rfl (fun K hK => ?_); simp only [Keep]; go_simp; refine hK _ ?_; clear hK K)
      unfold wpT
      go_wp2
      exact bodyPost_ret (results_row_tmp rfl _ _ w.heap.size 30 #[.int .u8 (uv x0), .int .u8 (uv x1), .bool rf, .bool sc, .int .u16 (uv po), .int .u16 (uv ct), .int .u16 (uv qu), .string (strOf sv), .string (strOf sb), .string (strOf ad)] (0, 0) _ rfl Y3.out Tryd.underlying30 rfl (by kernel_rfl)) rfl ⟨rfl, D3.out⟩
  · have RC := Lib.hid (REC.out rfl)
    obtain ⟨z, hz1⟩ : ∃ z, (BR == b) = z := ⟨_, rfl⟩
    have hz : Z = z := by rw [← HZ2.out, hz1]; rfl
    subst hz
    have EQ2 := Lib.hid (show ((strOf BR).toList == (strOf b).toList) = Z by rw [strOf_beq, hz1])
    obtain ⟨s1, hs1⟩ : ∃ s, strOf BR = s := ⟨_, rfl⟩
    obtain ⟨s2, hs2⟩ : ∃ s, strOf b = s := ⟨_, rfl⟩
    rw [hs1, hs2] at EQ2
    have HS1 := Lib.hid hs1; have HS2 := Lib.hid hs2
    have hcv : ∀ y : KeepT (fun k => k = w.heap.size) w1, (convert 31 9 (.slice (some ⟨gv, ov, none⟩) 1024 cv)).run Tryd.prog y.val = .ok (.string s2) y.val := fun y => by
      have h := run_string (BytesV.keepTB VV1.out y GN.out)
      rw [HS2.out] at h; exact h
    clear hz1 REC HZ2 hs1 hs2
    refine wp_region_planT (fun k => k = w.heap.size) (.firm 0 (.firm 1 (.one 2 (.firm 3 (.firm 4 (.firm 7 (.firm 8 (.one 5 (.two 6 (.firm 9 (.firm 10 (.one 11 (.firm 12 .done)))) 11 (.one 6 (.firm 9 (.firm 10 (.firm 12 .done))))))))))))) (by kernel_rfl) (by kernel_rfl) (by intro c a d v w h; cases d <;> exact h) ?_
    intro W1 K1 C1
    refine wpT_load_rowM rfl rfl 30 (.tmp 4) rfl q rfl 30 #[.int .u8 (uv x0), .int .u8 (uv x1), .bool rf, .bool sc, .int .u16 (uv po), .int .u16 (uv ct), .int .u16 (uv qu), .string (strOf sv), .string (strOf sb), .string (strOf ad)] (0, 0) _ q0 Tryd.underlying30 rfl (by kernel_rfl) ?_
    refine wpT_load_rowM rfl rfl 30 (.tmp 4) rfl q rfl 30 #[.int .u8 (uv x0), .int .u8 (uv x1), .bool rf, .bool sc, .int .u16 (uv po), .int .u16 (uv ct), .int .u16 (uv qu), .string (strOf sv), .string (strOf sb), .string (strOf ad)] (0, 0) _ q0 Tryd.underlying30 rfl (by kernel_rfl) ?_
    refine wpT_chain rfl ?_
    go_wp2_with (go_at_call 11; go_loud (refine (VAL.out _).mono ?_; rintro e w2 ⟨rfl, hw⟩; have C2 := Lib.hid (gr_tr C1.out hw); have K2 := Lib.hid (K1.out.below hw); clear hw))
    refine ⟨K2.out, ?_⟩
    (refine wpT_firm rfl (fun K hK => ?_); simp only [Keep]; go_simp; refine hK _ ?_; clear hK K)
    refine wpT_load_rowM rfl rfl 30 (.tmp 4) rfl q rfl 30 #[.int .u8 (uv x0), .int .u8 (uv x1), .bool rf, .bool sc, .int .u16 (uv po), .int .u16 (uv ct), .int .u16 (uv qu), .string (strOf sv), .string (strOf sb), .string (strOf ad)] (0, 0) _ q0 Tryd.underlying30 rfl (by kernel_rfl) ?_
    (refine wpT_firm rfl (fun K hK => ?_); simp only [Keep]; go_simp; refine hK _ ?_; clear hK K)
    (refine wpT_firm rfl (fun K hK => ?_); simp only [Keep]; go_simp; refine hK _ ?_; clear hK K)
    clear hcv
    refine wpT_chain rfl ?_
    go_wp2_with (go_at_call 31; go_loud (refine (RC.out _).mono ?_; rintro e w3 ⟨u3, rfl, hu, hnew, hw⟩; have N3 := Lib.hid (show Off (fun k => k = w.heap.size) u3 from fun g o n c e hg => by have := hnew g (by rw [e]; rfl); have := C2.out.size; have := D1.out.size; have := (Array.getElem?_eq_some_iff.1 Y1.out).1; omega); have U3 := Lib.hid hu; have C3 := Lib.hid (gr_tr C2.out hw); have K3 := Lib.hid (K2.out.below hw); clear hu hnew hw))
    refine ⟨K3.out, ?_⟩
    refine wpT_two rfl rfl ?_ ?_
    · have hc3 := run_string U3.out
      rw [HS1.out] at hc3
      go_wp2
      refine ⟨K3.out, ?_⟩
      clear hc3
      have eq2 := EQ2.out
      (refine wpT_firm rfl (fun K hK => ?_); simp only [Keep]; go_simp; refine hK _ ?_; clear hK K)
      (refine wpT_firm rfl (fun K hK => ?_); simp only [Keep]; go_simp; refine hK _ ?_; clear hK K)
      clear eq2
      have Y2 := Lib.hid (blk_below Y1.out C3.out)
      refine wpT_chain rfl ?_
      refine wpList_store_row rfl 30 (.tmp 2) (.tmp 47) rfl w.heap.size #[.int .u8 (uv x0), .int .u8 (uv x1), .bool rf, .bool sc, .int .u16 (uv po), .int .u16 (uv ct), .int .u16 (uv qu), .string (strOf sv), .string (strOf sb), .string (strOf ad)] rfl rfl 30 #[.int .u8 0, .int .u8 0, .bool false, .bool false, .int .u16 0, .int .u16 0, .int .u16 0, .string ⟨#[]⟩, .string ⟨#[]⟩, .string ⟨#[]⟩] Y2.out (by kernel_rfl) rfl (by simp [Value.oneCell']) ?_
      have Y3 := Lib.hid (setRow_heap _ _ _ #[.int .u8 (uv x0), .int .u8 (uv x1), .bool rf, .bool sc, .int .u16 (uv po), .int .u16 (uv ct), .int .u16 (uv qu), .string (strOf sv), .string (strOf sb), .string (strOf ad)] _ _ Y2.out)
      have D3 := Lib.hid (below_setRow (gr_tr D1.out C3.out) (Nat.le_refl _) #[.int .u8 (uv x0), .int .u8 (uv x1), .bool rf, .bool sc, .int .u16 (uv po), .int .u16 (uv ct), .int .u16 (uv qu), .string (strOf sv), .string (strOf sb), .string (strOf ad)])
      have K9 := Lib.hid (K3.out.row (g := w.heap.size) rfl #[.int .u8 (uv x0), .int .u8 (uv x1), .bool rf, .bool sc, .int .u16 (uv po), .int .u16 (uv ct), .int .u16 (uv qu), .string (strOf sv), .string (strOf sb), .string (strOf ad)])
      go_wp2
      refine ⟨K9.out, ?_⟩
      (refine wpT_firm rfl (fun K hK => ?_); simp only [Keep]; go_simp; refine hK _ ?_; clear hK K)
      unfold wpT
      go_wp2
      exact bodyPost_ret (results_row_tmp rfl _ _ w.heap.size 30 #[.int .u8 (uv x0), .int .u8 (uv x1), .bool rf, .bool sc, .int .u16 (uv po), .int .u16 (uv ct), .int .u16 (uv qu), .string (strOf sv), .string (strOf sb), .string (strOf ad)] (0, 0) _ rfl Y3.out Tryd.underlying30 rfl (by kernel_rfl)) rfl ⟨rfl, D3.out⟩
    · have Y2 := Lib.hid (blk_below Y1.out C3.out)
      refine wpList_store_row rfl 30 (.tmp 2) (.tmp 47) rfl w.heap.size #[.int .u8 (uv x0), .int .u8 (uv x1), .bool rf, .bool sc, .int .u16 (uv po), .int .u16 (uv ct), .int .u16 (uv qu), .string (strOf sv), .string (strOf sb), .string (strOf ad)] rfl rfl 30 #[.int .u8 0, .int .u8 0, .bool false, .bool false, .int .u16 0, .int .u16 0, .int .u16 0, .string ⟨#[]⟩, .string ⟨#[]⟩, .string ⟨#[]⟩] Y2.out (by kernel_rfl) rfl (by simp [Value.oneCell']) ?_
      have Y3 := Lib.hid (setRow_heap _ _ _ #[.int .u8 (uv x0), .int .u8 (uv x1), .bool rf, .bool sc, .int .u16 (uv po), .int .u16 (uv ct), .int .u16 (uv qu), .string (strOf sv), .string (strOf sb), .string (strOf ad)] _ _ Y2.out)
      have D3 := Lib.hid (below_setRow (gr_tr D1.out C3.out) (Nat.le_refl _) #[.int .u8 (uv x0), .int .u8 (uv x1), .bool rf, .bool sc, .int .u16 (uv po), .int .u16 (uv ct), .int .u16 (uv qu), .string (strOf sv), .string (strOf sb), .string (strOf ad)])
      have K9 := Lib.hid (K3.out.row (g := w.heap.size) rfl #[.int .u8 (uv x0), .int .u8 (uv x1), .bool rf, .bool sc, .int .u16 (uv po), .int .u16 (uv ct), .int .u16 (uv qu), .string (strOf sv), .string (strOf sb), .string (strOf ad)])
      go_wp2
      refine ⟨K9.out, ?_⟩
      have hc3 := run_string (BytesV.chg U3.out (Chg.setRow (B := fun k => k = w.heap.size) w3 rfl #[.int .u8 (uv x0), .int .u8 (uv x1), .bool rf, .bool sc, .int .u16 (uv po), .int .u16 (uv ct), .int .u16 (uv qu), .string (strOf sv), .string (strOf sb), .string (strOf ad)]) N3.out)
      rw [HS1.out] at hc3
      refine wpT_chain rfl ?_
      go_wp2
      refine ⟨K9.out, ?_⟩
      clear hc3
      have eq2 := EQ2.out
      (refine wpT_firm rfl (fun K hK => ?_); simp only [Keep]; go_simp; refine hK _ ?_; clear hK K)
      (refine wpT_firm rfl (fun K hK => ?_); simp only [Keep]; go_simp; refine hK _ ?_; clear hK K)
      (refine wpT_firm rfl (fun K hK => ?_); simp only [Keep]; go_simp; refine hK _ ?_; clear hK K)
      unfold wpT
      go_wp2
      exact bodyPost_ret (results_row_tmp rfl _ _ w.heap.size 30 #[.int .u8 (uv x0), .int .u8 (uv x1), .bool rf, .bool sc, .int .u16 (uv po), .int .u16 (uv ct), .int .u16 (uv qu), .string (strOf sv), .string (strOf sb), .string (strOf ad)] (0, 0) _ rfl Y3.out Tryd.underlying30 rfl (by kernel_rfl)) rfl ⟨rfl, D3.out⟩
end Go.Proofs.YtjcgdenkmmgmfaaDoor
namespace Go.Proofs.YtjcgdenkmmgmfaaDoor
open Go.RowKit Go.Shelf Dsc
set_option linter.unusedVariables false
set_option linter.unusedSimpArgs false
attribute [local go_sem] Oper.semAt_some
theorem wpList_store_rowB {P : Program} {ops : Array Oper} {rest : List Oper} {o : Oper} {a : Act} {W : World} {Q : Exit → Act → World → Prop} (hgd : o.guard = none) (ty : TypeId) (x y : Operand) (ho : o.op = .store ty x y) (g : Nat)
    (cells : Array Value) (hx : a.eval x = .pointer (some ⟨g, 0, none⟩)) (hy : a.eval y = .agg cells) (t : TypeId) (old : Array Value) (hg : W.heap[g]? = some (.cells old t (0, 0)))
    (hi : (P.info? ty).map (·.size) = some cells.size) (hold : old.size = cells.size) (h1 : cells.all (·.oneCell') = true)
    (h : ∀ w', w'.heap[g]? = some (.cells cells t (0, 0)) → Chg (fun k => k = g) W w' → wpList P ops Q rest (a.put o.dst undef) w') : wpList P ops Q (o :: rest) a W :=
  wpList_store_row hgd ty x y ho g cells hx hy t old hg hi hold h1 (h _ (setRow_heap _ _ _ _ _ _ hg) (Chg.setRow (B := fun k => k = g) _ rfl _))
theorem allZ_part {l : List (BitVec 8)} {k : Nat} {x : BitVec 8} (h : l[k]? = some x) (hx : x ≠ 0#8) : allZ l = false := by
  unfold allZ
  rw [List.all_eq_false]
  exact ⟨x, List.mem_of_getElem? h, by simpa using hx⟩
theorem decE_bad {b : List (BitVec 8)} (h : decE b ≠ 0) : decG b = 0#64 ∧ decL b = [] := by
  unfold decG decL; rw [if_neg h, if_neg h]; exact ⟨rfl, rfl⟩
set_option maxHeartbeats 6400000 in
set_option maxRecDepth 20000 in
theorem rDecode_at (v : Value) (b : List (BitVec 8)) (E : Int) (g : BitVec 64) (L : List Rec) (w : World) (hv : BytesV w v b) (hE : decE b = E) (hG : decG b = g) (hL : decL b = L) :
    Calls Tryd.prog 15 #[v] w fun e w' => ∃ lv, e = .returned (.tuple #[.agg #[.int .u64 (uv g), lv], .int .i64 E]) ∧ SliceV w' Rec.cells lv L ∧ Below w.heap.size w w' := by
  have hm63 : b.length ≤ 9223372036854775807 := by obtain ⟨a, c, rfl, _, h1, h2, _⟩ := hv; omega
  obtain ⟨W, hW⟩ : ∃ W, W = w.alloc (.cells #[.int .u64 0, .slice none 0 0] 25) := ⟨_, rfl⟩
  have D := Lib.hid (show Below w.heap.size w W by rw [hW]; exact gr_alloc w _)
  have X := Lib.hid (show W.heap[w.heap.size]? = some (.cells #[.int .u64 0, .slice none 0 0] 25 (0, 0)) by rw [hW]; exact heap_alloc_new w _)
  have HW := Lib.hid hW
  clear hW
  have S := Lib.hid hv
  have BAD := Lib.hid (show E ≠ 0 → uv g = 0 ∧ L = [] from fun h => by
    obtain ⟨h1, h2⟩ := decE_bad (b := b) (by rw [hE]; exact h)
    rw [h1] at hG; rw [h2] at hL
    exact ⟨by rw [← hG]; rfl, hL.symm⟩)
  obtain ⟨a, c, hva, -⟩ := id hv
  obtain ⟨M, hM⟩ : ∃ M, b.length = M := ⟨_, rfl⟩
  have HM := Lib.hid hM
  rw [hM] at hva hm63
  subst hva
  have HE := Lib.hid hE; have HG := Lib.hid hG; have HL := Lib.hid hL
  by_cases h1 : M < 1024
  · have hE4 : E = 4 := by rw [← hE]; unfold decE; rw [hM, if_pos h1]
    subst hE4
    have HG0 := Lib.hid (BAD.out (by decide)).1
    have HL0 := Lib.hid (BAD.out (by decide)).2
    clear hE hG hL hM hv S HE HG HL BAD
    have hd : decide ((M : Int) < 1024) = true := decide_eq_true (by omega)
    go_enter Tryd.func15, Tryd.ntmps15
    go_upto_region 1 with fail
    rw [← HW.out]
    go_wp2_with (refine wpList_store_rowB rfl 25 (.tmp 2) _ rfl w.heap.size #[.int .u64 0, .slice none 0 0] rfl rfl 25 _ X.out (by kernel_rfl) rfl (by kernel_rfl) ?_; intro W3 h3 hc; have X3 := Lib.hid h3; have D3 := Lib.hid (D.out.trans (hc.below (fun k e => Nat.le_of_eq e.symm) D.out.size)); clear h3 hc)
    exact bodyPost_ret (results_row_tmp rfl _ _ w.heap.size 25 #[.int .u64 0, .slice none 0 0] (0, 0) _ rfl X3.out Tryd.underlying25 rfl (by kernel_rfl)) rfl ⟨.slice none 0 0, by rw [HG0.out]; rfl, by rw [HL0.out]; exact ⟨none, 0, rfl, fun _ => rfl, Nat.le_refl _, Nat.zero_le _, .inl rfl⟩, D3.out⟩
  · have hd : decide ((M : Int) < 1024) = false := decide_eq_false (by omega)
    obtain ⟨u8, s8, r8, -⟩ := BytesV.cut (P := Tryd.prog) (T := 31) (E := 5) Tryd.underlying31 (by kernel_rfl) hv 8 16 (by decide) (by omega)
    obtain ⟨u0, s0, -, r0⟩ := BytesV.cut (P := Tryd.prog) (T := 31) (E := 5) Tryd.underlying31 (by kernel_rfl) hv 0 8 (by decide) (by omega)
    rw [cut_take b 8 8] at s8
    replace s0 : BytesV w u0 (cut b 0 8) := by rw [← cut_take b 0 8]; exact s0
    replace r0 := r0 rfl
    obtain ⟨m, hm⟩ : ∃ m, num b 8 8 = m := ⟨_, rfl⟩
    obtain ⟨g0, hg0⟩ : ∃ g, num b 0 8 = g := ⟨_, rfl⟩
    have VAL := Lib.hid (fun w' (hb : Below w.heap.size w w') => rnumber_at u8 (cut b 8 8) m w' (s8.below hb) (Nat.le_of_eq (cut_len (by omega))) hm)
    have VAL0 := Lib.hid (fun w' (hb : Below w.heap.size w w') => rnumber_at u0 (cut b 0 8) g0 w' (s0.below hb) (Nat.le_of_eq (cut_len (by omega))) hg0)
    replace r8 : ∀ w', (Instr.slice 31 (.slice a M c) (some (.int .i64 8)) (some (.int .i64 16)) none).run Tryd.prog w' = .ok u8 w' := by rw [← hM]; exact r8
    replace r0 : ∀ w', (Instr.slice 31 (.slice a M c) none (some (.int .i64 8)) none).run Tryd.prog w' = .ok u0 w' := by rw [← hM]; exact r0
    have hum : uv m = ((m.toNat : Nat) : Int) := rfl
    obtain ⟨n, hk⟩ : ∃ k, m.toNat = k := ⟨_, rfl⟩
    rw [hum, hk] at VAL
    have HK := Lib.hid (show (num b 8 8).toNat = n by rw [hm, hk])
    have HG2 := Lib.hid hg0
    have R8 := Lib.hid r8; have R0 := Lib.hid r0
    have CUT := Lib.hid (fun lo hi h1 h2 => BytesV.cut (P := Tryd.prog) (T := 31) (E := 5) Tryd.underlying31 (by kernel_rfl) hv lo hi h1 h2)
    have HM1 := Lib.hid (show 1024 ≤ M by omega)
    clear hE hG hL s8 s0 hm hg0 hum hk r8 r0 h1 hM hv
    go_enter Tryd.func15, Tryd.ntmps15
    go_upto_region 1 with fail
    rw [← HW.out]
    clear HW
    go_wp2
    clear hd
    go_loopw [4] (fun i wr => ∃ k : Nat, 16 ≤ k ∧ k ≤ 1024 ∧ i = .int .i64 k ∧ Hid (∀ x ∈ (cut b 16 1008).take (k - 16), x = 0#8) ∧ W = wr) (fun i _ => 1024 - (intOf i).toNat)
    case atStart => exact ⟨16, by omega, by omega, rfl, Lib.hid (by simp), rfl⟩
    case round =>
      obtain ⟨k, hk16, hk, rfl, hA, rfl⟩ := hrel
      by_cases hlt : k < 1024
      · have hkl : k < b.length := by have := HM.out; have := HM1.out; omega
        obtain ⟨y, hy⟩ : ∃ y, b[k]? = some y := ⟨b[k], List.getElem?_eq_getElem hkl⟩
        obtain ⟨gv, ov, cv, he⟩ := S.out.shapeAt (by omega)
        injection he with he1 he2 he3
        subst he1; subst he3
        have hcell : W.cell? ⟨gv, ov + k, none⟩ = some (.int .u8 (uv y)) := below_cellE D.out (BytesV.cellAt (show BytesV w (.slice (some ⟨gv, ov, none⟩) M c) b from S.out) hy)
        have hcy : (cut b 16 1008)[k - 16]? = some y := by
          unfold cut
          rw [List.getElem?_take_of_lt (by omega), List.getElem?_drop, show 16 + (k - 16) = k by omega, hy]
        have HM2 := Lib.hid (show k < M by have := HM1.out; omega)
        by_cases h0 : y = 0#8
        · have hy2 : (uv y != 0) = false := by subst h0; rfl
          have HR := Lib.hid (show ∀ x ∈ (cut b 16 1008).take (k + 1 - 16), x = 0#8 by
            rw [show k + 1 - 16 = k - 16 + 1 by omega, take_more _ _ y hcy]
            intro x hx
            rcases List.mem_append.1 hx with h | h
            · exact hA.out x h
            · rw [List.mem_singleton.1 h]; exact h0)
          have hm2 := HM2.out
          clear hy hcy h0 hkl he2
          go_wp2
          go_roundw
          case rel => exact ⟨k + 1, by omega, by omega, by go_num, HR, trivial⟩
          case measure => simp [intOf]; omega
        · have hy2 : (uv y != 0) = true := by
            have h2 : uv y ≠ 0 := fun e => h0 (uv_inj (by rw [e]; rfl))
            simpa using h2
          have hE6 : E = 6 := by
            rw [← HE.out]; unfold decE
            rw [HM.out, if_neg (by have := HM1.out; omega), if_pos (allZ_part hcy h0)]
          subst hE6
          have HG0 := Lib.hid (BAD.out (by decide)).1
          have HL0 := Lib.hid (BAD.out (by decide)).2
          have hm2 := HM2.out
          clear hy hcy h0 hkl he2
          go_wp2_with (refine wpList_store_rowB rfl 25 (.tmp 2) _ rfl w.heap.size #[.int .u64 0, .slice none 0 0] rfl rfl 25 _ X.out (by kernel_rfl) rfl (by kernel_rfl) ?_; intro W3 h3 hc; have X3 := Lib.hid h3; have D3 := Lib.hid (D.out.trans (hc.below (fun k e => Nat.le_of_eq e.symm) D.out.size)); clear h3 hc)
          exact bodyPost_ret (results_row_tmp rfl _ _ w.heap.size 25 #[.int .u64 0, .slice none 0 0] (0, 0) _ rfl X3.out Tryd.underlying25 rfl (by kernel_rfl)) rfl ⟨.slice none 0 0, by rw [HG0.out]; rfl, by rw [HL0.out]; exact ⟨none, 0, rfl, fun _ => rfl, Nat.le_refl _, Nat.zero_le _, .inl rfl⟩, D3.out⟩
      · obtain rfl : k = 1024 := by omega
        have HZ := Lib.hid (show allZ (cut b 16 1008) = true by
          unfold allZ
          rw [List.all_eq_true]
          intro x hx
          have h := hA.out x (by rw [List.take_of_length_le (by have h9 := cut_len (l := b) (a := 16) (n := 1008) (by rw [HM.out]; have := HM1.out; omega); omega)]; exact hx)
          rw [h]; rfl)
        have EE := Lib.hid (show (if 256 < n then (5 : Int) else if M < 1024 * (1 + n) then 4 else if 1024 * (1 + n) < M then 5 else if fine b n then 0 else 6) = E by
          rw [← HE.out]; unfold decE
          rw [HM.out, HK.out, if_neg (show ¬ M < 1024 by have := HM1.out; omega), if_neg (show ¬ allZ (cut b 16 1008) = false by rw [HZ.out]; simp)])
        have r8 := R8.out
        clear hA hlt hk hk16
        by_cases h3 : 256 < n
        · have hE5 : E = 5 := by rw [← EE.out, if_pos h3]
          subst hE5
          have HG0 := Lib.hid (BAD.out (by decide)).1
          have HL0 := Lib.hid (BAD.out (by decide)).2
          have hd3 : ((256 : Int) < (n : Int)) := by omega
          go_wp2_with (first | (refine wpList_store_rowB rfl 25 (.tmp 2) _ rfl w.heap.size #[.int .u64 0, .slice none 0 0] rfl rfl 25 _ X.out (by kernel_rfl) rfl (by kernel_rfl) ?_; intro W3 h3 hc; have X3 := Lib.hid h3; have D3 := Lib.hid (D.out.trans (hc.below (fun k e => Nat.le_of_eq e.symm) D.out.size)); clear h3 hc) | (go_at_call 37; go_loud (refine (VAL.out _ D.out).mono ?_; rintro e w2 ⟨rfl, rfl⟩)))
          exact bodyPost_ret (results_row_tmp rfl _ _ w.heap.size 25 #[.int .u64 0, .slice none 0 0] (0, 0) _ rfl X3.out Tryd.underlying25 rfl (by kernel_rfl)) rfl ⟨.slice none 0 0, by rw [HG0.out]; rfl, by rw [HL0.out]; exact ⟨none, 0, rfl, fun _ => rfl, Nat.le_refl _, Nat.zero_le _, .inl rfl⟩, D3.out⟩
        · have EE2 := Lib.hid (EE.out.symm.trans (if_neg h3))
          have hd3 : ¬ ((256 : Int) < (n : Int)) := by omega
          have HN := Lib.hid (show n ≤ 256 by omega)
          have hw1 : IntKind.i64.wrap (n : Int) = (n : Int) := by rw [IntKind.wrap_i64]; omega
          have hw2 : IntKind.i64.wrap ((n : Int) + 1) = (n : Int) + 1 := by rw [IntKind.wrap_i64]; omega
          have hw3 : IntKind.i64.wrap (1024 * ((n : Int) + 1)) = 1024 * ((n : Int) + 1) := by rw [IntKind.wrap_i64]; omega
          by_cases h4 : M < 1024 * (1 + n)
          · have hE4 : E = 4 := by rw [EE2.out, if_pos h4]
            subst hE4
            have HG0 := Lib.hid (BAD.out (by decide)).1
            have HL0 := Lib.hid (BAD.out (by decide)).2
            have hd4 : ((M : Int) < 1024 * ((n : Int) + 1)) := by omega
            clear h3 h4
            go_wp2_with (first | (refine wpList_store_rowB rfl 25 (.tmp 2) _ rfl w.heap.size #[.int .u64 0, .slice none 0 0] rfl rfl 25 _ X.out (by kernel_rfl) rfl (by kernel_rfl) ?_; intro W3 h3 hc; have X3 := Lib.hid h3; have D3 := Lib.hid (D.out.trans (hc.below (fun k e => Nat.le_of_eq e.symm) D.out.size)); clear h3 hc) | (go_at_call 37; go_loud (refine (VAL.out _ D.out).mono ?_; rintro e w2 ⟨rfl, rfl⟩)))
            exact bodyPost_ret (results_row_tmp rfl _ _ w.heap.size 25 #[.int .u64 0, .slice none 0 0] (0, 0) _ rfl X3.out Tryd.underlying25 rfl (by kernel_rfl)) rfl ⟨.slice none 0 0, by rw [HG0.out]; rfl, by rw [HL0.out]; exact ⟨none, 0, rfl, fun _ => rfl, Nat.le_refl _, Nat.zero_le _, .inl rfl⟩, D3.out⟩
          · have hd4 : ¬ ((M : Int) < 1024 * ((n : Int) + 1)) := by omega
            by_cases h5 : 1024 * (1 + n) < M
            · have hE5 : E = 5 := by rw [EE2.out, if_neg h4, if_pos h5]
              subst hE5
              have HG0 := Lib.hid (BAD.out (by decide)).1
              have HL0 := Lib.hid (BAD.out (by decide)).2
              have hd5 : (1024 * ((n : Int) + 1) < (M : Int)) := by omega
              clear h3 h4 h5
              go_wp2_with (first | (refine wpList_store_rowB rfl 25 (.tmp 2) _ rfl w.heap.size #[.int .u64 0, .slice none 0 0] rfl rfl 25 _ X.out (by kernel_rfl) rfl (by kernel_rfl) ?_; intro W3 h3 hc; have X3 := Lib.hid h3; have D3 := Lib.hid (D.out.trans (hc.below (fun k e => Nat.le_of_eq e.symm) D.out.size)); clear h3 hc) | (go_at_call 37; go_loud (refine (VAL.out _ D.out).mono ?_; rintro e w2 ⟨rfl, rfl⟩)))
              exact bodyPost_ret (results_row_tmp rfl _ _ w.heap.size 25 #[.int .u64 0, .slice none 0 0] (0, 0) _ rfl X3.out Tryd.underlying25 rfl (by kernel_rfl)) rfl ⟨.slice none 0 0, by rw [HG0.out]; rfl, by rw [HL0.out]; exact ⟨none, 0, rfl, fun _ => rfl, Nat.le_refl _, Nat.zero_le _, .inl rfl⟩, D3.out⟩
            · have hd5 : ¬ (1024 * ((n : Int) + 1) < (M : Int)) := by omega
              have EF := Lib.hid (show (if fine b n then (0 : Int) else 6) = E by rw [EE2.out, if_neg h4, if_neg h5])
              have HMN := Lib.hid (show M = 1024 * (1 + n) by omega)
              clear h3 h4 h5 EE EE2
              go_upto_region 15 with (go_at_call 37; go_loud (refine (VAL.out _ D.out).mono ?_; rintro e w2 ⟨rfl, rfl⟩))
              clear hd3 hd4 hd5 hw2 hw3 r8 VAL
              have r0 := R0.out
              have XW := X
              go_upto_region 16 with (first | (go_at_call 37; go_loud (refine (VAL0.out _ D.out).mono ?_; rintro e w2 ⟨rfl, rfl⟩)) | (refine wpList_store_new rfl 25 (.tmp 6) (.tmp 49) rfl #[.int .u64 (uv g0), .slice none 0 0] 25 _ rfl rfl (by kernel_rfl) rfl (by kernel_rfl) ?_; intro w3 h3 hb; have Z3 := Lib.hid h3; have X3 := Lib.hid (blk_below X.out hb); have D3 := Lib.hid (gr_tr D.out hb); clear h3 hb))
              clear r0 VAL0 X D
              obtain ⟨Bl, hBl⟩ : ∃ x, W.heap.size = x := ⟨_, rfl⟩
              have LB := Lib.hid (show w.heap.size < Bl by rw [← hBl]; exact (Array.getElem?_eq_some_iff.1 XW.out).1)
              rw [hBl] at Z3 ⊢
              clear hBl XW
              go_wp2
              go_loopw [7] (fun i wr => ∃ (j : Nat) (lv : Value), 1 ≤ j ∧ j ≤ n + 1 ∧ i = .int .i64 j ∧ Hid (fine b (j - 1) = true) ∧ Hid (wr.heap[Bl]? = some (.cells #[.int .u64 (uv g0), lv] 25 (0, 0))) ∧ wr.ownsRow (Bl + 1) 30 10 lv (j - 1) ((recsOf b (j - 1)).flatMap Rec.cells) ∧ Hid (wr.heap[w.heap.size]? = some (.cells #[.int .u64 0, .slice none 0 0] 25 (0, 0))) ∧ Below w.heap.size w wr) (fun i _ => n + 1 - (intOf i).toNat)
              case atStart => exact ⟨1, .slice none 0 0, by omega, by omega, rfl, Lib.hid rfl, Z3, World.ownsRow_nil _ _ _ _, X3, D3.out⟩
              case round =>
                obtain ⟨j, lv, hj1, hj2, rfl, hF, Z4, hO, X4, hD⟩ := hrel
                have O4 := Lib.hid hO; have D4 := Lib.hid hD
                clear hO hD
                have hj257 : (j : Int) ≤ 257 := by have := HN.out; omega
                by_cases hlt : j ≤ n
                · obtain ⟨u, hu, r1, -⟩ := CUT.out (1024 * j) (1024 * j + 1024) (by omega) (by have := HM.out; have := HMN.out; omega)
                  rw [cut_take b (1024 * j) 1024] at hu
                  have hcut : ∀ w', (Instr.slice 31 (.slice a M c) (some (.int .i64 (1024 * (j : Int)))) (some (.int .i64 (1024 * (j : Int) + 1024))) none).run Tryd.prog w' = .ok u w' := by
                    intro w'
                    have h := r1 w'
                    rw [show (1024 * (j : Int)) = ((1024 * j : Nat) : Int) by omega, show (((1024 * j : Nat) : Int) + 1024) = ((1024 * j + 1024 : Nat) : Int) by omega]
                    exact h
                  have hjj : j - 1 + 1 = j := by omega
                  have hck : chunk b (j - 1 + 1) = cut b (1024 * j) 1024 := by rw [hjj]; rfl
                  obtain ⟨Z, hZ⟩ : ∃ Z, prs (chunk b (j - 1 + 1)) = Z := ⟨_, rfl⟩
                  have PARX := Lib.hid (fun w' (hb : Below w.heap.size w w') => rParse_at u (chunk b (j - 1 + 1)) Z w' (by rw [hck]; exact hu.below hb) (by rw [hck]; exact cut_len (by have := HM.out; have := HMN.out; omega)) hZ)
                  have FM := Lib.hid (fine_more b (j - 1))
                  have RM := Lib.hid (recsOf_more b (j - 1))
                  have FN := Lib.hid (fine_no b (j - 1) n (by omega))
                  obtain ⟨r, hr⟩ : ∃ r, rdR (chunk b (j - 1 + 1)) = r := ⟨_, rfl⟩
                  rw [hr] at PARX RM
                  rw [hZ] at FM FN
                  obtain ⟨x0, x1, rf, sc, po, ct, qu, sv, sb, ad⟩ := r
                  have hcr : (Rec.mk x0 x1 rf sc po ct qu sv sb ad).cells.toArray = #[.int .u8 (uv x0), .int .u8 (uv x1), .bool rf, .bool sc, .int .u16 (uv po), .int .u16 (uv ct), .int .u16 (uv qu), .string (strOf sv), .string (strOf sb), .string (strOf ad)] := rfl
                  rw [hcr] at PARX
                  clear hu r1 hck hZ hr hcr
                  have HJJ := Lib.hid hjj
                  clear hjj
                  cases Z
                  · have hE6 : E = 6 := by rw [← EF.out, FN.out rfl]; rfl
                    subst hE6
                    have HG0 := Lib.hid (BAD.out (by decide)).1
                    have HL0 := Lib.hid (BAD.out (by decide)).2
                    go_wp2_with (first | (go_at_call 38; go_loud (refine (PARX.out _ D4.out).mono ?_; rintro e w5 ⟨rfl, hw⟩; have X5 := Lib.hid (blk_below X4.out hw); have Z5 := Lib.hid (blk_below Z4.out hw); have O5 := Lib.hid (own_below O4.out hw); have D5 := Lib.hid (gr_tr D4.out hw); clear hw)) | (refine wpList_store_new rfl 30 (.tmp 8) (.tmp 65) rfl #[.int .u8 (uv x0), .int .u8 (uv x1), .bool rf, .bool sc, .int .u16 (uv po), .int .u16 (uv ct), .int .u16 (uv qu), .string (strOf sv), .string (strOf sb), .string (strOf ad)] 30 _ rfl rfl (by kernel_rfl) rfl (by simp [Value.oneCell']) ?_; intro w6 h6 hb; have R6 := Lib.hid h6; have X := Lib.hid (blk_below X5.out hb); have Z6 := Lib.hid (blk_below Z5.out hb); have O6 := Lib.hid (own_below O5.out hb); have D := Lib.hid (gr_tr D5.out hb); have q6 : w6.cell? ⟨Bl, 1, none⟩ = some lv := (cell_of_row _ _ 1 _ _ _ Z6.out).trans rfl; clear h6 hb) | (refine wpList_store_rowB rfl 25 (.tmp 2) _ rfl w.heap.size #[.int .u64 0, .slice none 0 0] rfl rfl 25 _ X.out (by kernel_rfl) rfl (by kernel_rfl) ?_; intro W3 h3 hc; have X3 := Lib.hid h3; have D3 := Lib.hid (D.out.trans (hc.below (fun k e => Nat.le_of_eq e.symm) D.out.size)); clear h3 hc))
                    exact bodyPost_ret (results_row_tmp rfl _ _ w.heap.size 25 #[.int .u64 0, .slice none 0 0] (0, 0) _ rfl X3.out Tryd.underlying25 rfl (by kernel_rfl)) rfl ⟨.slice none 0 0, by rw [HG0.out]; rfl, by rw [HL0.out]; exact ⟨none, 0, rfl, fun _ => rfl, Nat.le_refl _, Nat.zero_le _, .inl rfl⟩, D3.out⟩
                  · have hF2 := Lib.hid (show fine b (j + 1 - 1) = true by rw [show j + 1 - 1 = j - 1 + 1 by have := HJJ.out; omega, FM.out, hF.out]; rfl)
                    go_wp2_with (first | (go_at_call 38; go_loud (refine (PARX.out _ D4.out).mono ?_; rintro e w5 ⟨rfl, hw⟩; have X5 := Lib.hid (blk_below X4.out hw); have Z5 := Lib.hid (blk_below Z4.out hw); have O5 := Lib.hid (own_below O4.out hw); have D5 := Lib.hid (gr_tr D4.out hw); clear hw)) | (refine wpList_store_new rfl 30 (.tmp 8) (.tmp 65) rfl #[.int .u8 (uv x0), .int .u8 (uv x1), .bool rf, .bool sc, .int .u16 (uv po), .int .u16 (uv ct), .int .u16 (uv qu), .string (strOf sv), .string (strOf sb), .string (strOf ad)] 30 _ rfl rfl (by kernel_rfl) rfl (by simp [Value.oneCell']) ?_; intro w6 h6 hb; have R6 := Lib.hid h6; have X := Lib.hid (blk_below X5.out hb); have Z6 := Lib.hid (blk_below Z5.out hb); have O6 := Lib.hid (own_below O5.out hb); have D := Lib.hid (gr_tr D5.out hb); have q6 : w6.cell? ⟨Bl, 1, none⟩ = some lv := (cell_of_row _ _ 1 _ _ _ Z6.out).trans rfl; clear h6 hb) | (refine wpList_load_row rfl 30 (.tmp 8) rfl w5.heap.size rfl 30 #[.int .u8 (uv x0), .int .u8 (uv x1), .bool rf, .bool sc, .int .u16 (uv po), .int .u16 (uv ct), .int .u16 (uv qu), .string (strOf sv), .string (strOf sb), .string (strOf ad)] (0, 0) _ R6.out Tryd.underlying30 rfl (by kernel_rfl) ?_) | (at_builtin; go_loud (refine app_law_at recsOk rfl (.tmp 71) (.tmp 73) rfl (Bl + 1) lv (j - 1) ((recsOf b (j - 1)).flatMap Dsc.Rec.cells) rfl (own_below O6.out (gr_alloc _ _)) (some ⟨w6.heap.size, 0, none⟩) 1 1 (Rec.mk x0 x1 rf sc po ct qu sv sb ad).cells rfl (by simp) (by omega) (Row.lit w6 #[.int .u8 (uv x0), .int .u8 (uv x1), .bool rf, .bool sc, .int .u16 (uv po), .int .u16 (uv ct), .int .u16 (uv qu), .string (strOf sv), .string (strOf sb), .string (strOf ad)] 30 (0, 0)) rfl (by simp [Dsc.Rec.cells, Value.oneCell']) (by omega) (by omega) (by have := (Array.getElem?_eq_some_iff.1 Z6.out).1; simp; omega) ?_; intro v7 w7 ho hg ha; obtain ⟨al7, cl7, rfl⟩ := own_shape ho; have O7 := Lib.hid ho; have hb7 : w7.heap[Bl]? = some (.cells #[.int .u64 (uv g0), lv] 25 (0, 0)) := (hg.block Bl (Array.getElem?_eq_some_iff.1 (blk_below Z6.out (gr_alloc _ _))).1 (fun e => by have := (O6.out.lt Bl e.symm).1; omega)).trans (blk_below Z6.out (gr_alloc _ _)); have Z7 := Lib.hid hb7; have hx7 : w7.heap[w.heap.size]? = some (.cells #[.int .u64 0, .slice none 0 0] 25 (0, 0)) := (hg.block w.heap.size (Array.getElem?_eq_some_iff.1 (blk_below X.out (gr_alloc _ _))).1 (fun e => by have := (O6.out.lt w.heap.size e.symm).1; have := LB.out; omega)).trans (blk_below X.out (gr_alloc _ _)); have X7 := Lib.hid hx7; have D7 := Lib.hid ((gr_tr D.out (gr_alloc w6 _)).grown hg (gr_tr D.out (gr_alloc w6 _)).size (fun k hk => by have := (O6.out.lt k hk).1; have := LB.out; omega)); have p7 : w7.cell? ⟨Bl, 1, none⟩ = some lv := (cell_of_row _ _ 1 _ _ _ hb7).trans rfl; have z7 := frozen_of_row _ _ 1 _ _ hb7; clear ho hg ha hb7 hx7)))
                    go_roundw
                    case rel =>
                      have ejj := HJJ.out
                      have O8 := O7.out
                      have RM2 := RM.out
                      rw [ejj] at O8 RM2
                      refine ⟨j + 1, .slice al7 j cl7, by omega, by omega, by go_num, hF2, Lib.hid (heap_setCell_same _ _ _ _ _ _ Z7.out), ?_, Lib.hid ?_, D7.out.setCell (p := ⟨Bl, 1, none⟩) (Nat.le_of_lt LB.out) _⟩
                      · have h := own_chg O8 (Chg.setCell (B := fun k => k = Bl) (p := ⟨Bl, 1, none⟩) w7 rfl (.slice al7 j cl7)) (fun k hk e => by have := (O8.lt k hk).1; omega)
                        rw [show j + 1 - 1 = j from rfl, RM2, List.flatMap_append]
                        exact h
                      · rw [heap_setCell_other _ _ _ _ (show w.heap.size ≠ Bl by have := LB.out; omega)]; exact X7.out
                    case measure => simp [intOf]; omega
                · obtain rfl : j = n + 1 := by omega
                  have hfin : fine b n = true := hF.out
                  have hE0 : E = 0 := by rw [← EF.out, if_pos hfin]
                  subst hE0
                  have hgg : g0 = g := by rw [← HG.out, ← HG2.out]; unfold decG; rw [if_pos HE.out]
                  have hLL : recsOf b n = L := by rw [← HL.out]; unfold decL; rw [if_pos HE.out, HK.out]
                  subst hgg
                  rw [show n + 1 - 1 = n from rfl, hLL] at O4
                  have HLL := Lib.hid (show L.length = n by rw [← hLL]; exact recsOf_len b n)
                  obtain ⟨al, cl, rfl⟩ := own_shape O4.out
                  clear hfin hLL
                  go_wp2_with (first
                    | (refine wpList_load_row rfl 25 (.tmp 6) rfl Bl rfl 25 #[.int .u64 (uv g0), .slice al n cl] (0, 0) _ Z4.out Tryd.underlying25 rfl (by kernel_rfl) ?_)
                    | (refine wpList_store_rowB rfl 25 (.tmp 2) _ rfl w.heap.size #[.int .u64 (uv g0), .slice al n cl] rfl rfl 25 _ X4.out (by kernel_rfl) rfl (by simp [Value.oneCell']) ?_; intro W7 h7 hc; have X7 := Lib.hid h7; have D7 := Lib.hid (D4.out.trans (hc.below (fun k e => Nat.le_of_eq e.symm) D4.out.size)); have O7 := Lib.hid (own_chg O4.out hc (fun k hk e => by have := (O4.out.lt k hk).1; have := LB.out; omega)); clear h7 hc))
                  exact bodyPost_ret (results_row_tmp rfl _ _ w.heap.size 25 #[.int .u64 (uv g0), .slice al n cl] (0, 0) _ rfl X7.out Tryd.underlying25 rfl (by kernel_rfl)) rfl ⟨.slice al n cl, rfl, SliceV.of_own (f := Dsc.Rec.cells) (k := 10) (by decide) (fun _ => rfl) (xs := L) (by rw [HLL.out]; exact O7.out), D7.out⟩
end Go.Proofs.YtjcgdenkmmgmfaaDoor
namespace Go.Proofs.YtjcgdenkmmgmfaaDoor
open Go.RowKit Go.Shelf Dsc
set_option linter.unusedVariables false
set_option linter.unusedSimpArgs false
attribute [local go_sem] Oper.semAt_some
set_option maxHeartbeats 6400000 in
set_option maxRecDepth 20000 in
theorem lawDecodes (v : Value) (b : List (BitVec 8)) (w : World) (hv : BytesV w v b) :
    Calls Tryd.prog 4 #[v] w fun e w' => e = .returned (.bool true) ∧ Below w.heap.size w w' := by
  have V := Lib.hid hv
  obtain ⟨a, c, hva, -⟩ := id hv
  subst hva
  obtain ⟨M, hM⟩ : ∃ M, b.length = M := ⟨_, rfl⟩
  rw [hM] at V ⊢
  clear hv hM
  by_cases g2 : (5200 : Int) < (M : Int)
  · go_enter Tryd.func4, Tryd.ntmps4
    go_wp2_with (go_at_call 8; go_loud (refine (known_any _).mono ?_; rintro e w9 ⟨rfl, hw⟩))
    go_ret
    exact ⟨rfl, hw⟩
  · obtain ⟨E, hE⟩ : ∃ x, decE b = x := ⟨_, rfl⟩
    obtain ⟨g, hg⟩ : ∃ x, decG b = x := ⟨_, rfl⟩
    obtain ⟨L, hL⟩ : ∃ x, decL b = x := ⟨_, rfl⟩
    have DEC := Lib.hid (fun v w h => Decode_at v b E g L w h hE hg hL)
    have RDEC := Lib.hid (fun v w h => rDecode_at v b E g L w h hE hg hL)
    have SAM := Lib.hid (fun v1 v2 w h1 h2 => Same_eq v1 v2 L w h1 h2)
    clear hE hg hL
    go_enter Tryd.func4, Tryd.ntmps4
    go_upto_region 5 with (first
      | (go_at_call 14; go_loud (refine (DEC.out _ _ V.out).mono ?_; rintro e w1 ⟨lv, rfl, ho, hb⟩; have L1 := Lib.hid (SliceV.of_own (f := Dsc.Rec.cells) (k := 10) (by decide) (fun _ => rfl) (xs := L) ho); obtain ⟨a1, c1, rfl⟩ := own_shape ho; have V1 := Lib.hid (V.out.below hb); have D1 := Lib.hid hb; clear ho hb))
      | (refine wpList_store_new rfl 25 (.tmp 3) (.tmp 14) rfl #[.int .u64 (uv g), .slice a1 L.length c1] 25 _ rfl rfl (by kernel_rfl) rfl (by simp [Value.oneCell']) ?_; intro w2 h2 hb; have T2 := Lib.hid h2; have L2 := Lib.hid (SliceV.below L1.out hb); have V2 := Lib.hid (V1.out.below hb); have D2 := Lib.hid (gr_tr D1.out hb); clear h2 hb)
      | (go_at_call 15; go_loud (refine (RDEC.out _ _ V2.out).mono ?_; rintro e w3 ⟨lv3, rfl, hs, hb⟩; have M3 := Lib.hid hs; obtain ⟨a3, c3, rfl, -⟩ := id hs; have T3 := Lib.hid (blk_below T2.out hb); have L3 := Lib.hid (SliceV.below L2.out hb); have D3 := Lib.hid (gr_tr D2.out hb); clear hs hb))
      | (refine wpList_store_new rfl 25 (.tmp 5) (.tmp 19) rfl #[.int .u64 (uv g), .slice a3 L.length c3] 25 _ rfl rfl (by kernel_rfl) rfl (by simp [Value.oneCell']) ?_; intro w4 h4 hb; have T4 := Lib.hid (blk_below T3.out hb); have U4 := Lib.hid h4; have L4 := Lib.hid (SliceV.below L3.out hb); have M4 := Lib.hid (SliceV.below M3.out hb); have D4 := Lib.hid (gr_tr D3.out hb); clear h4 hb))
    obtain ⟨p, hp⟩ : ∃ x, w1.heap.size = x := ⟨_, rfl⟩
    obtain ⟨q, hq⟩ : ∃ x, w3.heap.size = x := ⟨_, rfl⟩
    rw [hp] at T4
    rw [hq] at U4
    rw [hp, hq]
    have y0 : w4.cell? ⟨p, 0, none⟩ = some (.int .u64 (uv g)) := (cell_of_row _ _ 0 _ _ _ T4.out).trans rfl
    have y1 : w4.cell? ⟨p, 1, none⟩ = some (.slice a1 L.length c1) := (cell_of_row _ _ 1 _ _ _ T4.out).trans rfl
    have z0 : w4.cell? ⟨q, 0, none⟩ = some (.int .u64 (uv g)) := (cell_of_row _ _ 0 _ _ _ U4.out).trans rfl
    have z1 : w4.cell? ⟨q, 1, none⟩ = some (.slice a3 L.length c3) := (cell_of_row _ _ 1 _ _ _ U4.out).trans rfl
    have hgg : (uv g == uv g) = true := by simp
    obtain ⟨s, hs⟩ : ∃ s, uv g = s := ⟨_, rfl⟩
    rw [hs] at hgg y0 z0
    clear hp hq hs T2 T3 L1 L2 L3 M3 V1 V2 D1 D2 D3
    go_wp2_with (first
      | (go_at_call 16; go_loud (refine (SAM.out _ _ _ L4.out M4.out).mono ?_; rintro e w5 ⟨rfl, hb⟩; have D5 := Lib.hid (gr_tr D4.out hb); clear hb))
      | (go_at_call 8; go_loud (refine (known_any _).mono ?_; rintro e w9 ⟨rfl, hw⟩; have D9 := Lib.hid (gr_tr D5.out hw); clear hw)))
    go_ret
    exact ⟨rfl, D9.out⟩
end Go.Proofs.YtjcgdenkmmgmfaaDoor
