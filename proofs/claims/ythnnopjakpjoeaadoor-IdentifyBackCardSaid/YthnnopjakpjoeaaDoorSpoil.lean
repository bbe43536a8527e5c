/- A change of bytes (spoil), and the reference's get and check. -/
import Derived.Test.YthnnopjakpjoeaaDoorZeros
import Derived.Test.YthnnopjakpjoeaaDoorRef24A
import Derived.Test.YthnnopjakpjoeaaDoorIdRise
import Derived.Deep.DeepCutAuto
import Derived.Test.YthnnopjakpjoeaaDoorOpenG
namespace Go.Proofs.YthnnopjakpjoeaaDoor
open Go.RowKit Go.ChangeShapes Go.WideShapes Go.ChangeAt
set_option linter.unusedVariables false
set_option linter.unusedSimpArgs false
structure Spo where
  a : Int
  b : BitVec 8
  m : Int
def Spo.cells (x : Spo) : List Value := [.int .i64 x.a, .int .u8 (uv x.b), .int .i64 x.m]
def Spo.R (w : World) (x : Spo) : Prop := I64 x.a ∧ True ∧ I64 x.m
theorem Spo.cells_len : ∀ y, (Spo.cells y).length = 3 := fun _ => rfl
set_option maxRecDepth 100000 in
theorem opens_Spo (w : World) : Opens Tryd.prog w 40 Spo Spo.cells (Spo.R w) := by
  intro H enc sp held fuel cs x h
  obtain ⟨hl, hfs⟩ := trod_fields Tryd.underlying40 h
  rw [show Tryd.prog.cellsOf 40 = 3 by kernel_rfl] at hl
  obtain ⟨y0, a0, r0⟩ := opens_field hfs 0 _ rfl 0 1 rfl (by kernel_rfl) (opens_i64 Tryd.underlying3)
  obtain ⟨y1, a1, r1⟩ := opens_field hfs 1 _ rfl 1 1 rfl (by kernel_rfl) (opens_u8 Tryd.underlying5)
  obtain ⟨y2, a2, r2⟩ := opens_field hfs 2 _ rfl 2 1 rfl (by kernel_rfl) (opens_i64 Tryd.underlying3)
  have e := (glue a0 (by decide : 0 + 1 = 1) (glue a1 (by decide : 1 + 1 = 2) (glue a2 (by decide : 2 + 1 = 3) (glue_end hl))))
  rw [List.drop_zero] at e
  exact ⟨⟨y0, y1, y2⟩, e, ⟨r0, r1, r2⟩⟩
theorem run_own_zeros0 (w : World) (ty : TypeId) (a : Option Addr) (n c : Nat) (hn : n ≤ c) :
    (Builtin.append_ #[22, 3] ty #[.slice a n c, .int .i64 0]).run Tryd.prog w = .ok (.slice a n c) w := by
  obtain ⟨i, hi, hz, hs, hb⟩ := infoZ
  have hw : IntKind.i64.wrap (0 : Int) = 0 := by rw [IntKind.wrap_i64]; rfl
  cases a <;> simp [Builtin.append_, run_underlying Tryd.underlying22, run_underlying Tryd.underlying3, sizeOf, typeInfo, zeroValue, hi, hz, hs, asInt, asIntOf, hw, hn, storeCells, hb]
theorem app_zeros0 {ops : Array Oper} {rest : List Oper} {o : Oper} {a : Act} {Q : Exit → Act → World → Prop} {W : World} (hgd : o.guard = none) (s x : Operand) (ho : o.op = .call { callee := .builtin .append, args := #[s, x], argTypes := #[22, 3] })
    (ad : Option Addr) (n c : Nat) (hs : a.eval s = .slice ad n c) (hn : n ≤ c) (hx : a.eval x = .int .i64 0)
    (h : wpList Tryd.prog ops Q rest (a.put o.dst (.slice ad n c)) W) : wpList Tryd.prog ops Q (o :: rest) a W := by
  refine wpList_plain hgd fun K hK => ?_
  exact Lib.wp_append_run W s x _ _ ho _ _ hs hx _ _ (run_own_zeros0 W o.type ad n c hn) (hK _ _ h)
theorem BytesV.takeN {w : World} {a : Option Addr} {n c : Nat} {l : List (BitVec 8)} (h : BytesV w (.slice a n c) l) (k : Nat) (hk : k ≤ l.length) : BytesV w (.slice a k c) (l.take k) := by
  obtain ⟨a', c', e, h0, h1, h2, h3⟩ := h
  injection e with e1 e2 e3
  subst e1 e3
  have hl : (l.take k).length = k := by rw [List.length_take]; omega
  refine ⟨a, c, by rw [hl], fun ha => h0 ha, by rw [hl]; omega, h2, ?_⟩
  have := h3.take k
  unfold by8 at this ⊢
  rw [List.map_take]; exact this
theorem spoil_cut (n : Nat) (more : Int) (hn : n ≤ 1000000) (hm : -9223372036854775808 ≤ more ∧ more ≤ 9223372036854775807) (h : more < 0) :
    ∃ q : Nat, max 0 (wrap64 ((n : Int) - min (wrap64 (-more)) 10)) = (q : Int) ∧ q ≤ n := by
  have e1 : wrap64 (-more) = if more = -9223372036854775808 then -9223372036854775808 else -more := by
    split
    · rename_i e; subst e; unfold wrap64; omega
    · exact IntWalk.wrap64_in _ (by omega)
  rw [e1]
  split
  · have e2 : wrap64 ((n : Int) - min (-9223372036854775808) 10) = (n : Int) - 9223372036854775808 := by
      have : (n : Int) - min (-9223372036854775808) 10 = n + 9223372036854775808 := by omega
      rw [this]; unfold wrap64; omega
    exact ⟨0, by rw [e2]; omega, by omega⟩
  · rw [IntWalk.wrap64_in _ (by omega)]
    exact ⟨(max 0 ((n : Int) - min (-more) 10)).toNat, by omega, by omega⟩
set_option maxHeartbeats 1600000 in
set_option maxRecDepth 20000 in
theorem spoil_any (v : Value) (l : List (BitVec 8)) (at' more : Int) (by' : BitVec 8) (w : World) (hv : BytesV w v l) (hl : l.length ≤ 1000000) (ha : -9223372036854775808 ≤ at' ∧ at' ≤ 9223372036854775807) (hm : -9223372036854775808 ≤ more ∧ more ≤ 9223372036854775807) :
    Calls Tryd.prog 22 #[v, .agg #[.int .i64 at', .int .u8 (uv by'), .int .i64 more]] w fun e w' => ∃ u m, e = .returned u ∧ BytesV w' u m ∧ m.length ≤ l.length + 10 ∧ Below w.heap.size w w' := by
  have V := Lib.hid hv
  clear hv
  go_enter Tryd.func22, Tryd.ntmps22
  go_upto_region 2 with (go_at_call 18; go_loud (refine (Own_any v l _ (V.out.below (gr_alloc w _)) (by omega)).mono ?_; rintro r w1 ⟨u, rfl, ho, hb⟩; obtain ⟨ad, c, rfl⟩ := own_shapeR ho; have O := Lib.hid ho; have B := Lib.hid hb; clear ho hb))
  have c0 : w1.cell? ⟨w.heap.size, 0, none⟩ = some (.int .i64 at') := (B.out.cell (p := ⟨w.heap.size, 0, none⟩) (by simp)).trans (cell_of_row _ _ 0 _ _ _ (heap_alloc_new w _))
  have c1 : w1.cell? ⟨w.heap.size, 1, none⟩ = some (.int .u8 (uv by')) := (B.out.cell (p := ⟨w.heap.size, 1, none⟩) (by simp)).trans (cell_of_row _ _ 1 _ _ _ (heap_alloc_new w _))
  have c2 : w1.cell? ⟨w.heap.size, 2, none⟩ = some (.int .i64 more) := (B.out.cell (p := ⟨w.heap.size, 2, none⟩) (by simp)).trans (cell_of_row _ _ 2 _ _ _ (heap_alloc_new w _))
  go_cut [17] (fun s wx => ∃ b : Bool, s = .bool b ∧ (b = true → 0 ≤ at' ∧ at' < l.length) ∧ wx = w1)
  case first =>
    by_cases h1 : 0 ≤ at'
    · by_cases h2 : at' < l.length
      · go_wp2
        go_meet
        exact ⟨true, rfl, fun _ => ⟨h1, h2⟩, rfl⟩
      · go_wp2
        go_meet
        exact ⟨false, rfl, fun h => (by cases h), rfl⟩
    · go_wp2
      go_meet
      exact ⟨false, rfl, fun h => (by cases h), rfl⟩
  case rest =>
    obtain ⟨b, rfl, hin, rfl⟩ := hcut
    obtain ⟨w2, hx2⟩ : ∃ x, x = wc := ⟨_, rfl⟩
    subst hx2
    have HIN := Lib.hid hin; clear hin
    go_upto_if 17 with (fail)
    go_cut [17] (fun s wx => ∃ m : List (BitVec 8), m.length = l.length ∧ wx.ownsRow (w.alloc (.cells #[.int .i64 at', .int .u8 (uv by'), .int .i64 more] 40)).heap.size 5 1 (.slice ad l.length c) l.length (by8 m) ∧ Below (w.alloc (.cells #[.int .i64 at', .int .u8 (uv by'), .int .i64 more] 40)).heap.size (w.alloc (.cells #[.int .i64 at', .int .u8 (uv by'), .int .i64 more] 40)) wx)
    case first =>
      cases b
      · go_wp2
        go_meet
        exact ⟨l, rfl, O.out, B.out⟩
      · obtain ⟨p1, p2⟩ := HIN.out rfl
        obtain ⟨g, c', e0, hg1, hg2, hg3⟩ := own_addrR O.out (by omega)
        injection e0 with e1 e2 e3
        subst e1 e3
        obtain ⟨k, rfl⟩ := Int.eq_ofNat_of_zero_le p1
        have hk : k < l.length := by omega
        have gx : w2.cell? ⟨g, k, none⟩ = some (.int .u8 (uv l[k])) := by
          rw [World.ownsRow.cellAt O.out k (by omega), by8_get, List.getElem?_eq_getElem hk]; rfl
        have fx := World.ownsRow.frozenAt O.out k
        go_wp2
        go_meet
        refine ⟨l.set k by', by rw [List.length_set], ?_, ?_⟩
        · rw [← by8_setL]
          have := (World.ownsRow.stored O.out k (.int .u8 (uv by'))).1
          exact this
        · exact (Chg.setCell (B := fun b => b = g) (p := ⟨g, k, none⟩) _ rfl _).fresh B.out (fun k hk => by subst hk; exact hg1)
    case rest =>
      obtain ⟨m, hm2, ho2, hb2⟩ := hcut
      obtain ⟨w3, hx3⟩ : ∃ x, x = wc := ⟨_, rfl⟩
      subst hx3
      have O2 := Lib.hid ho2; have B2 := Lib.hid hb2; have HM2 := Lib.hid hm2
      clear ho2 hb2 hm2 O B
      have c2' : w3.cell? ⟨w.heap.size, 2, none⟩ = some (.int .i64 more) := (B2.out.cell (p := ⟨w.heap.size, 2, none⟩) (by simp)).trans (cell_of_row _ _ 2 _ _ _ (heap_alloc_new w _))
      have B3 := Lib.hid (gr_tr (gr_alloc w _) B2.out)
      have V2 := Lib.hid (BytesV.of_own (l := m) (by rw [HM2.out]; exact O2.out))
      clear c0 c1 c2
      by_cases h1 : more < 0
      · obtain ⟨q, hq, hql⟩ := spoil_cut l.length more (by omega) hm h1
        have hcm : m.length ≤ c := by obtain ⟨_, _, e, _, h, _⟩ := V2.out; injection e with _ _ e; rw [e]; exact h
        have hqc : q ≤ c := by have := HM2.out; omega
        have TK := Lib.hid (V2.out.takeN q (by rw [HM2.out]; exact hql))
        clear hcm
        go_wp2
        go_ret
        exact ⟨_, _, rfl, TK.out, by rw [List.length_take]; have := HM2.out; omega, B3.out⟩
      · by_cases h2 : more = 0
        · subst h2
          go_wp2_with (at_builtin; refine app_zeros0 rfl (.tmp 37) (.tmp 40) rfl ad l.length c rfl (by obtain ⟨_, _, e, _, h, _⟩ := V2.out; injection e with _ _ e; rw [← HM2.out, e]; exact h) rfl ?_)
          go_ret
          exact ⟨_, rfl, m, by have := V2.out; exact this, by have := HM2.out; omega, B3.out⟩
        · obtain ⟨q, hq⟩ : ∃ q : Nat, (q : Int) = min more 10 := ⟨(min more 10).toNat, by omega⟩
          go_wp2_with (at_builtin; refine app_zeros rfl (.tmp 37) (.tmp 40) rfl _ _ m rfl (by rw [HM2.out]; exact O2.out) B2.out.size q (by rw [hq]; rfl) (by omega) (by have := HM2.out; omega) ?_; intro v1 w5 ho hb; have O1 := Lib.hid ho; have B5 := Lib.hid hb; clear ho hb)
          go_ret
          exact ⟨_, rfl, _, BytesV.of_own O1.out, by rw [List.length_append, List.length_replicate]; have := HM2.out; omega, (gr_alloc w _).trans ((B2.out.trans B5.out).mono (gr_alloc w _).size)⟩
end Go.Proofs.YthnnopjakpjoeaaDoor
