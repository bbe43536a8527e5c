/- Package logpage: rising, EncodeNamespaces, EncodeZones. Printed by genlogb.py. -/
import Derived.Test.YthnnopjakpjoeaaDoorLogA
import Derived.Test.YthnnopjakpjoeaaDoorOpenG
namespace Go.Proofs.YthnnopjakpjoeaaDoor
open Go.RowKit Lg
set_option linter.unusedVariables false
set_option linter.unusedSimpArgs false
theorem uw32 (y : BitVec 32) : uv (y.setWidth 64) = uv y := by show ((y.setWidth 64).toNat : Int) = y.toNat; rw [BitVec.toNat_setWidth, Nat.mod_eq_of_lt (by have := y.isLt; omega)]
theorem uw16 (y : BitVec 16) : uv (y.setWidth 64) = uv y := by show ((y.setWidth 64).toNat : Int) = y.toNat; rw [BitVec.toNat_setWidth, Nat.mod_eq_of_lt (by have := y.isLt; omega)]
theorem uw8 (y : BitVec 8) : uv (y.setWidth 64) = uv y := by show ((y.setWidth 64).toNat : Int) = y.toNat; rw [BitVec.toNat_setWidth, Nat.mod_eq_of_lt (by have := y.isLt; omega)]
namespace Lg
/-- The elements increase, starting above a. -/
def risB {n : Nat} : BitVec n → List (BitVec n) → Bool
  | _, [] => true
  | a, x :: l => decide (uv a < uv x) && risB x l
theorem flat1 {α : Type} (f : α → Value) (l : List α) : l.flatMap (fun y => [f y]) = l.map f := by
  induction l with
  | nil => rfl
  | cons x l ih => rw [List.flatMap_cons, ih, List.map_cons]; rfl
theorem fl4 (x : BitVec 32) (l : List (BitVec 32)) : True := trivial
/-- The fields of a list of numbers. -/
def fl32 (l : List (BitVec 32)) : List WF := l.map fun x => (x.setWidth 64, 4)
def fl64 (l : List (BitVec 64)) : List WF := l.map fun x => (x, 8)
theorem fl32_e (l : List (BitVec 32)) : Wire.allE (fl32 l) = 0 := (allE_iff _).2 (fun f hf => by obtain ⟨x, -, rfl⟩ := List.mem_map.1 hf; exact (fit32 x).1)
theorem fl64_fit (l : List (BitVec 64)) : ∀ f ∈ fl64 l, Wire.putE f.1 f.2 = 0 := fun f hf => by obtain ⟨x, -, rfl⟩ := List.mem_map.1 hf; exact (fit64 x).1
theorem fl32_sz (l : List (BitVec 32)) : sz (fl32 l) = 4 * l.length := by
  unfold sz fl32
  induction l with
  | nil => rfl
  | cons x l ih => rw [List.map_cons, List.map_cons, List.sum_cons, ih, List.length_cons]; show 4 + 4 * l.length = _; omega
theorem fl64_sz (l : List (BitVec 64)) : sz (fl64 l) = 8 * l.length := by
  unfold sz fl64
  induction l with
  | nil => rfl
  | cons x l ih => rw [List.map_cons, List.map_cons, List.sum_cons, ih, List.length_cons]; show 8 + 8 * l.length = _; omega
def nsOkL (l : List (BitVec 32)) : Bool := decide (l.length ≤ 1024) && risB 0#32 l
def nsEL (l : List (BitVec 32)) : Int := if nsOkL l then 0 else 2
def nsBL (l : List (BitVec 32)) : List (BitVec 8) := pageB 4096 (fl32 l)
def nsRL (l : List (BitVec 32)) : List (BitVec 8) := if nsOkL l then nsBL l else []
def zoFl (l : List (BitVec 64)) : List WF := (BitVec.ofNat 64 l.length, 8) :: fl64 l
def zoRis : List (BitVec 64) → Bool
  | [] => true
  | x :: l => risB x l
def zoOkL (l : List (BitVec 64)) : Bool := decide (l.length ≤ 511) && zoRis l
def zoEL (l : List (BitVec 64)) : Int := if zoOkL l then 0 else 2
def zoBL (l : List (BitVec 64)) : List (BitVec 8) := pageB 4096 (zoFl l)
def zoRL (l : List (BitVec 64)) : List (BitVec 8) := if zoOkL l then zoBL l else []
theorem nsBL_cat (l : List (BitVec 32)) : (Wire.cat (fl32 l)).length = 4 * l.length := by rw [cat_len0 _ (fl32_e l), fl32_sz]
theorem zo_e (l : List (BitVec 64)) : Wire.allE (zoFl l) = 0 := (allE_iff _).2 (by unfold zoFl; rw [List.forall_mem_cons]; exact ⟨(fit64 _).1, fl64_fit l⟩)
theorem zo_cat (l : List (BitVec 64)) : (Wire.cat (zoFl l)).length = 8 + 8 * l.length := by
  rw [cat_len0 _ (zo_e l)]; unfold zoFl
  show 8 + sz (fl64 l) = _
  rw [fl64_sz]
theorem nsBL_len {l : List (BitVec 32)} (h : l.length ≤ 1024) : (nsBL l).length = 4096 := pageB_len (by rw [nsBL_cat]; omega)
theorem zoBL_len {l : List (BitVec 64)} (h : l.length ≤ 511) : (zoBL l).length = 4096 := pageB_len (by rw [zo_cat]; omega)
end Lg
theorem fieldsOk : ElemOk Tryd.prog 190 192 (.agg #[.int .u64 0, .int .i64 0]) 2 16 :=
  ⟨Tryd.underlying190, info_parts (by kernel_rfl), rfl, by decide⟩
theorem fCells_app (a b : List WF) : fCells (a ++ b) = fCells a ++ fCells b := by unfold fCells; rw [List.flatMap_append]
theorem FieldsV.own {w : World} {base : Nat} {e : TypeId} {v : Value} {n : Nat} {fl : List WF} (hn : n = fl.length) (h : w.ownsRow base e 2 v n (fCells fl)) : FieldsV w v fl := by
  subst hn
  obtain ⟨h1, h2⟩ := h
  rcases h2 with ⟨e1, e2⟩ | ⟨g, cap, cur, hv, hg, hh, r1, r2, r3, r4⟩
  · have : fl = [] := List.length_eq_zero_iff.1 e2
    subst this; subst e1
    exact ⟨none, 0, rfl, fun _ => rfl, by simp, by simp, .inl rfl⟩
  · subst hv
    exact ⟨_, cap, rfl, (by simp), r1, r2, Row.of_own ⟨h1, .inr ⟨g, cap, cur, rfl, hg, hh, r1, r2, r3, r4⟩⟩⟩
/-- 'append(own, f)' at fields. -/
theorem app_field {ops : Array Oper} {rest : List Oper} {o : Oper} {a : Act} {Q : Exit → Act → World → Prop} {W : World} (hgd : o.guard = none) (s x : Operand) (ho : o.op = .call { callee := .builtin .append, args := #[s, x], argTypes := #[190, 190] })
    (u : Value) (base n : Nat) (fl : List WF) (hs : a.eval s = u) (hown : W.ownsRow base 192 2 u n (fCells fl)) (hbase : base ≤ W.heap.size) (f : WF) (ty : TypeId) (hx : a.eval x = .slice (some ⟨W.heap.size, 0, none⟩) 1 1) (hl : n ≤ 100000)
    (h : ∀ v' w', w'.ownsRow base 192 2 v' (n + 1) (fCells (fl ++ [f])) → Below base W w' → wpList Tryd.prog ops Q rest (a.put o.dst v') w') : wpList Tryd.prog ops Q (o :: rest) a (W.alloc (.cells #[.int .u64 (uv f.1), .int .i64 f.2] ty)) := by
  have hb := gr_alloc W (.cells #[.int .u64 (uv f.1), .int .i64 f.2] ty)
  refine app_law_at fieldsOk hgd s x ho base u n (fCells fl) hs (own_below hown hb) (some ⟨W.heap.size, 0, none⟩) 1 1 (fCells [f]) hx some_none (Nat.le_refl _) (Row.lit W #[.int .u64 (uv f.1), .int .i64 f.2] ty (0, 0)) rfl (by intro u hu; simp [fCells] at hu; rcases hu with rfl | rfl <;> rfl) (by omega) (by omega) (Nat.le_trans hbase hb.size) ?_
  intro v' w' h1 h2 h3
  rw [← fCells_app] at h1
  exact h v' w' h1 ((hb.mono hbase).grown h2 (Nat.le_trans hbase hb.size) (fun k hk => (hown.lt k hk).1))
set_option maxRecDepth 20000 in
theorem rising_u32 (v : Value) (l : List (BitVec 32)) (a : BitVec 32) (b : Bool) (w : World) (hv : SliceV w (fun y : BitVec 32 => [Value.int .u32 (uv y)]) v l) (hl : l.length ≤ 1000000) (hb : risB a l = b) :
    Calls Tryd.prog 99 #[v, .int .u32 (uv a)] w fun e w' => e = .returned (.bool b) ∧ w = w' := by
  obtain ⟨ad, c, rfl, h0, h1, h2, h3⟩ := hv
  rw [flat1] at h3
  have ROW := Lib.hid h3; have HB := Lib.hid hb
  have hm : (l.length : Int) ≤ 9223372036854775807 := by omega
  clear h3 hb
  go_enter Tryd.func99, Tryd.ntmps99
  go_wp2
  go_loop [1, 9] (fun av i => ∃ (k : Nat) (x : BitVec 32), k ≤ l.length ∧ i = .int .i64 k ∧ av = .int .u32 (uv x) ∧ Hid (risB x (l.drop k) = b)) (fun _ i => l.length - (intOf i).toNat)
  case atStart => exact ⟨0, a, by omega, rfl, rfl, HB.out⟩
  case round =>
    obtain ⟨k, x, hk, rfl, rfl, hr⟩ := hrel
    by_cases hlt : k < l.length
    · obtain ⟨y, hy⟩ : ∃ y, l[k]? = some y := ⟨_, List.getElem?_eq_getElem hlt⟩
      obtain ⟨g, o, rfl, c0⟩ := ROW.out.at (i := k) (v := .int .u32 (uv y)) (by rw [List.getElem?_map, hy]; rfl)
      have hd : l.drop k = y :: l.drop (k + 1) := by obtain ⟨h5, rfl⟩ := List.getElem?_eq_some_iff.1 hy; exact List.drop_eq_getElem_cons h5
      have hr := hr.out
      rw [hd] at hr
      unfold risB at hr
      by_cases hxy : uv x < uv y
      · rw [decide_eq_true hxy, Bool.true_and] at hr
        have HR := Lib.hid hr
        have dq : decide (uv y ≤ uv x) = false := decide_eq_false (by omega)
        clear hr hd hxy hy
        go_wp2
        go_round
        case rel => exact ⟨k + 1, y, by omega, by go_num, rfl, HR.out⟩
        case measure => simp [intOf]; omega
      · rw [decide_eq_false hxy, Bool.false_and] at hr
        have dq : decide (uv y ≤ uv x) = true := decide_eq_true (by omega)
        subst hr
        clear hd hxy hy
        go_wp2
        go_ret
        exact ⟨rfl, rfl⟩
    · obtain rfl : k = l.length := by omega
      have hr := hr.out
      rw [List.drop_length] at hr
      have HR := Lib.hid hr
      clear hr
      go_wp2
      go_ret
      exact ⟨by rw [← HR.out]; rfl, rfl⟩
set_option maxRecDepth 20000 in
theorem rising_u64 (v : Value) (l : List (BitVec 64)) (a : BitVec 64) (b : Bool) (w : World) (hv : SliceV w (fun y : BitVec 64 => [Value.int .u64 (uv y)]) v l) (hl : l.length ≤ 1000000) (hb : risB a l = b) :
    Calls Tryd.prog 118 #[v, .int .u64 (uv a)] w fun e w' => e = .returned (.bool b) ∧ w = w' := by
  obtain ⟨ad, c, rfl, h0, h1, h2, h3⟩ := hv
  rw [flat1] at h3
  have ROW := Lib.hid h3; have HB := Lib.hid hb
  have hm : (l.length : Int) ≤ 9223372036854775807 := by omega
  clear h3 hb
  go_enter Tryd.func118, Tryd.ntmps118
  go_wp2
  go_loop [1, 9] (fun av i => ∃ (k : Nat) (x : BitVec 64), k ≤ l.length ∧ i = .int .i64 k ∧ av = .int .u64 (uv x) ∧ Hid (risB x (l.drop k) = b)) (fun _ i => l.length - (intOf i).toNat)
  case atStart => exact ⟨0, a, by omega, rfl, rfl, HB.out⟩
  case round =>
    obtain ⟨k, x, hk, rfl, rfl, hr⟩ := hrel
    by_cases hlt : k < l.length
    · obtain ⟨y, hy⟩ : ∃ y, l[k]? = some y := ⟨_, List.getElem?_eq_getElem hlt⟩
      obtain ⟨g, o, rfl, c0⟩ := ROW.out.at (i := k) (v := .int .u64 (uv y)) (by rw [List.getElem?_map, hy]; rfl)
      have hd : l.drop k = y :: l.drop (k + 1) := by obtain ⟨h5, rfl⟩ := List.getElem?_eq_some_iff.1 hy; exact List.drop_eq_getElem_cons h5
      have hr := hr.out
      rw [hd] at hr
      unfold risB at hr
      by_cases hxy : uv x < uv y
      · rw [decide_eq_true hxy, Bool.true_and] at hr
        have HR := Lib.hid hr
        have dq : decide (uv y ≤ uv x) = false := decide_eq_false (by omega)
        clear hr hd hxy hy
        go_wp2
        go_round
        case rel => exact ⟨k + 1, y, by omega, by go_num, rfl, HR.out⟩
        case measure => simp [intOf]; omega
      · rw [decide_eq_false hxy, Bool.false_and] at hr
        have dq : decide (uv y ≤ uv x) = true := decide_eq_true (by omega)
        subst hr
        clear hd hxy hy
        go_wp2
        go_ret
        exact ⟨rfl, rfl⟩
    · obtain rfl : k = l.length := by omega
      have hr := hr.out
      rw [List.drop_length] at hr
      have HR := Lib.hid hr
      clear hr
      go_wp2
      go_ret
      exact ⟨by rw [← HR.out]; rfl, rfl⟩
set_option maxRecDepth 20000 in
set_option maxHeartbeats 1600000 in
theorem EncN_at (v : Value) (l : List (BitVec 32)) (e : Int) (B : List (BitVec 8)) (w : World) (hv : SliceV w (fun y : BitVec 32 => [Value.int .u32 (uv y)]) v l) (hl : l.length ≤ 1000000) (he : nsEL l = e) (hB : nsRL l = B) :
    Calls Tryd.prog 39 #[v] w fun r w' => ∃ u, r = .returned (.tuple #[u, .int .i64 e]) ∧ BytesV w' u B ∧ Below w.heap.size w w' := by
  have V := Lib.hid hv; have HL := Lib.hid hl
  obtain ⟨ad, c, rfl, h0, h1, h2, h3⟩ := hv
  rw [flat1] at h3
  have ROW := Lib.hid h3
  have hm : (l.length : Int) ≤ 9223372036854775807 := by omega
  clear h3
  unfold nsEL at he
  unfold nsRL at hB
  unfold nsOkL at he hB
  by_cases h5 : 1024 < l.length
  · rw [decide_eq_false (by omega : ¬ l.length ≤ 1024), Bool.false_and] at he hB
    simp only [Bool.false_eq_true, if_false] at he hB
    subst he hB
    have d1 : decide ((1024 : Int) < l.length) = true := decide_eq_true (by omega)
    have d2 : decide (1024 < l.length) = true := decide_eq_true h5
    clear h5
    go_enter Tryd.func39, Tryd.ntmps39
    go_wp2
    go_ret2
    exact ⟨_, rfl, BytesV.nil _, Below.refl _ _⟩
  have d1 : decide ((1024 : Int) < l.length) = false := decide_eq_false (by omega)
  have d2 : decide (1024 < l.length) = false := decide_eq_false h5
  rw [decide_eq_true (by omega : l.length ≤ 1024), Bool.true_and] at he hB
  have H5 := Lib.hid h5
  clear h5
  obtain ⟨b, hb⟩ : ∃ b, risB 0#32 l = b := ⟨_, rfl⟩
  rw [hb] at he hB
  have HR := Lib.hid hb
  clear hb
  cases b
  · simp only [Bool.false_eq_true, if_false] at he hB
    subst he hB
    go_enter Tryd.func39, Tryd.ntmps39
    go_wp2_with (go_at_call 99; go_loud (refine (rising_u32 _ l 0#32 false _ V.out HL.out HR.out).mono ?_; rintro r w' ⟨rfl, rfl⟩))
    go_ret2
    exact ⟨_, rfl, BytesV.nil _, Below.refl _ _⟩
  simp only [if_true] at he hB
  subst he
  have HB := Lib.hid hB
  clear hB
  go_enter Tryd.func39, Tryd.ntmps39
  go_wp2_with (go_at_call 99; go_loud (refine (rising_u32 _ l 0#32 true _ V.out HL.out HR.out).mono ?_; rintro r w' ⟨rfl, rfl⟩))
  clear d1 d2
  go_loopw [4, 17] (fun u i wr => ∃ k : Nat, k ≤ l.length ∧ i = .int .i64 k ∧ wr.ownsRow w.heap.size 192 2 u k (fCells (fl32 (l.take k))) ∧ Below w.heap.size w wr) (fun _ i _ => l.length - (intOf i).toNat)
  case atStart => exact ⟨0, by omega, rfl, World.ownsRow_nil _ _ _ _, Below.refl _ _⟩
  case round =>
    obtain ⟨k, hk, rfl, ho, hb⟩ := hrel
    have O := Lib.hid ho; have D := Lib.hid hb; clear ho hb
    by_cases hlt : k < l.length
    · obtain ⟨y, hy⟩ : ∃ y, l[k]? = some y := ⟨_, List.getElem?_eq_getElem hlt⟩
      obtain ⟨g, o, rfl, c0⟩ := (ROW.out.below D.out).at (i := k) (v := .int .u32 (uv y)) (by rw [List.getElem?_map, hy]; rfl)
      have hs : fl32 (l.take (k + 1)) = fl32 (l.take k) ++ [(y.setWidth 64, 4)] := by
        obtain ⟨h5, rfl⟩ := List.getElem?_eq_some_iff.1 hy
        unfold fl32; rw [List.take_succ_eq_append_getElem h5, List.map_append]; rfl
      have HS := Lib.hid hs
      have hw64 : uv (y.setWidth 64) = uv y := uw32 y
      have HW := Lib.hid hw64
      clear hs hy hw64
      go_wp2_with (first
        | (go_at_call 100; go_loud (refine (f_any _ 4 _).mono ?_; rintro r w1 ⟨rfl, hw⟩; have D1 := Lib.hid (gr_tr D.out hw); have O1 := Lib.hid (own_below O.out hw); clear hw))
        | (at_builtin; rw [← HW.out]; refine app_field rfl (.tmp 21) (.tmp 25) rfl _ w.heap.size k (fl32 (l.take k)) rfl O1.out D1.out.size (y.setWidth 64, 4) _ rfl (by have := H5.out; omega) ?_; intro v2 w2 ho hb; have O2 := Lib.hid ho; have D2 := Lib.hid (D1.out.trans hb); clear ho hb))
      go_roundw
      case rel => exact ⟨k + 1, by omega, by go_num, by rw [HS.out]; exact O2.out, D2.out⟩
      case measure => simp [intOf]; omega
    · obtain rfl : k = l.length := by omega
      have FV := Lib.hid (show FieldsV wr u4 (fl32 l) from FieldsV.own (by unfold fl32; rw [List.length_map]) (by have := O.out; rwa [List.take_length] at this))
      go_wp2_with (go_at_call 101; go_loud (refine (page_any 4096 4096 _ (fl32 l) B _ rfl FV.out (by have := H5.out; simp [fl32]; omega) (fl32_e l) (by omega) (by rw [nsBL_cat]; have := H5.out; omega) HB.out).mono ?_; rintro r w3 ⟨u3, rfl, ho, hw⟩; have V3 := Lib.hid (BytesV.of_own ho); have D3 := Lib.hid (gr_tr D.out hw); clear ho hw))
      go_ret2
      exact ⟨_, rfl, V3.out, D3.out⟩
end Go.Proofs.YthnnopjakpjoeaaDoor
