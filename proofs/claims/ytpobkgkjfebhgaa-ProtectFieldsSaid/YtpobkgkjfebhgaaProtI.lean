/- The walks of package protect: Check. -/
import Derived.Test.YtpobkgkjfebhgaaProtH
namespace Go.Proofs.Ytpobkgkjfebhgaa
open Go.RowKit
set_option linter.unusedVariables false
set_option linter.unusedSimpArgs false

/-- A store of a row into the block that was made last. -/
theorem wpList_store_new {P : Program} {ops : Array Oper} {rest : List Oper} {o : Oper} {a : Act} {W : World} {Q : Exit → Act → World → Prop} (hgd : o.guard = none) (ty : TypeId) (x y : Operand) (ho : o.op = .store ty x y)
    (cells : Array Value) (t : TypeId) (old : Array Value) (hx : a.eval x = .pointer (some ⟨W.heap.size, 0, none⟩)) (hy : a.eval y = .agg cells)
    (hi : (P.info? ty).map (·.size) = some cells.size) (hold : old.size = cells.size) (h1 : cells.all (·.oneCell') = true)
    (h : ∀ w', w'.heap[W.heap.size]? = some (.cells cells t (0, 0)) → Below W.heap.size W w' → wpList P ops Q rest (a.put o.dst undef) w') : wpList P ops Q (o :: rest) a (W.alloc (.cells old t)) :=
  wpList_store_row hgd ty x y ho W.heap.size cells hx hy t old (heap_alloc_new _ _) hi hold h1 (h _ (setRow_heap _ _ _ _ _ _ (heap_alloc_new _ _)) (below_setRow (gr_alloc _ _) (Nat.le_refl _) _))

set_option maxRecDepth 20000 in
/-- An element of an array of comparisons. -/
theorem wpList_index_cmp {ops : Array Oper} {rest : List Oper} {op : Oper} {a : Act} {w : World} {Q : Exit → Act → World → Prop} (hgd : op.guard = none) (x i : Operand) (ho : op.op = .index 36 x i)
    (c0 c1 c2 c3 c4 c5 c6 c7 c8 c9 c10 c11 : Value) (hx : a.eval x = .agg #[c0, c1, c2, c3, c4, c5, c6, c7, c8, c9, c10, c11]) (k : Int) (hi : a.eval i = .int .i64 k) (v : Array Value)
    (hv : (k = 0 ∧ v = #[c0, c1, c2, c3]) ∨ (k = 1 ∧ v = #[c4, c5, c6, c7]) ∨ (k = 2 ∧ v = #[c8, c9, c10, c11]))
    (h : wpList Try.prog ops Q rest (a.put op.dst (.agg v)) w) : wpList Try.prog ops Q (op :: rest) a w := by
  refine wpList_plain hgd fun _ hK => ?_
  have hr : (Instr.index 36 (.agg #[c0, c1, c2, c3, c4, c5, c6, c7, c8, c9, c10, c11]) (.int .i64 k)).run Try.prog w = .ok (.agg v) w := by
    rcases hv with ⟨rfl, rfl⟩ | ⟨rfl, rfl⟩ | ⟨rfl, rfl⟩ <;> rfl
  unfold Oper.wp execOp
  simp only [ho, hx, hi, Sem.run_bind, Sem.run_pure, Result.andThen_ok, hr]
  exact hK _ _ h
theorem Prot.CmpW.below {w w' : World} {n : Nat} {t m g a : BitVec 16} {r : BitVec 32} {x : BitVec 16} {ty : Int} {y : BitVec 32} (h : Prot.CmpW w n t m g a r x ty y) (hb : Below w.heap.size w w') : Prot.CmpW w' n t m g a r x ty y :=
  ⟨below_get hb h.t, below_get hb h.m, below_get hb h.g, below_get hb h.a, below_get hb h.r, below_get hb h.x, below_get hb h.ty, below_get hb h.y⟩
namespace Prot
def code3 (x y z : Bool) : Int := if x then 130 else if y then 131 else if z then 132 else 0
def st (c : Int) : Array Value := if c = 0 then #[.int .u8 0, .int .u8 0, .bool false, .bool false] else #[.int .u8 2, .int .u8 c, .bool false, .bool true]
def chk (ty : Int) (fs : Bool) (lv lm : List (BitVec 8)) (cg ca cr : Bool) (t m : BitVec 16) (y : BitVec 32) : Int :=
  if wr ty fs false lm.length = 0 then (if ty = 0 then 0 else if esc ty (ta (cut fs lm)) (tr (cut fs lm)) then 0 else
    code3 (cg && (tg (cut fs lm) != guard ty fs lv lm)) (ca && ((ta (cut fs lm) ^^^ t) &&& m != 0#16)) (cr && ((ty != 3) && (tr (cut fs lm) != y)))) else 0
theorem wr_true {ty : Int} {fs : Bool} {n : Nat} (h : wr ty fs false n = 0) (h0 : (ty == 0) = false) : wr ty fs true n = 0 := by
  unfold wr at *; rw [h0]; simpa using h
end Prot
theorem Read_at (ty : Int) (fs : Bool) (m : Value) (lm : List (BitVec 8)) (g a : BitVec 16) (r : BitVec 32) (w : World) (hm : BytesV w m lm) (hn : Prot.wr ty fs true lm.length = 0) (hg : Prot.tg (Prot.cut fs lm) = g) (ha : Prot.ta (Prot.cut fs lm) = a) (hr : Prot.tr (Prot.cut fs lm) = r) :
    Calls Try.prog 16 #[.agg #[.int .i64 ty, .bool fs], m] w fun e w' => e = .returned (.tuple #[.agg #[.int .u16 (uv g), .int .u16 (uv a), .int .u32 (uv r)], .int .i64 0]) ∧ Below w.heap.size w w' := by
  have h := Read_any ty fs m lm w hm
  unfold Prot.rg Prot.ra Prot.rr at h
  rw [hn, if_pos rfl, if_pos rfl, if_pos rfl, hg, ha, hr] at h
  exact h
set_option maxRecDepth 4000 in
set_option maxHeartbeats 3200000 in
theorem Check_loop (ty : Int) (fs : Bool) (v mm : Value) (lv lm : List (BitVec 8)) (cg ca cr : Bool) (t m : BitVec 16) (y : BitVec 32) (g a : BitVec 16) (r : BitVec 32) (x : BitVec 16) (w : World) (hv : BytesV w v lv) (hm : BytesV w mm lm) (hs : lv.length + lm.length ≤ 140737488355328)
    (hn : Prot.wr ty fs false lm.length = 0) (hn2 : Prot.wr ty fs true lm.length = 0) (hq : (ty == 0) = false) (hg : Prot.tg (Prot.cut fs lm) = g) (ha : Prot.ta (Prot.cut fs lm) = a) (hr : Prot.tr (Prot.cut fs lm) = r)
    (hx : (if (0 : Int) = 0 then uv (Prot.guard ty fs lv lm) else 0) = uv x) (hes : Prot.esc ty a r = false) :
    Calls Try.prog 15 #[.agg #[.int .i64 ty, .bool fs], v, mm, .agg #[.bool cg, .bool ca, .bool cr, .int .u16 (uv t), .int .u16 (uv m)], .int .u32 (uv y)] w fun e w' => e = .returned (.tuple #[.agg (Prot.st (Prot.code3 (cg && (g != x)) (ca && ((a ^^^ t) &&& m != 0#16)) (cr && ((ty != 3) && (r != y))))), .int .i64 0]) ∧ Below w.heap.size w w' := by
  have hh : (((w.alloc (.cells #[.int .i64 ty, .bool fs] 42)).alloc (.cells #[.bool cg, .bool ca, .bool cr, .int .u16 (uv t), .int .u16 (uv m)] 24)).alloc (.cells #[.int .u8 0, .int .u8 0, .bool false, .bool false] 56)).heap[w.heap.size + 1 + 1]? = some (.cells #[.int .u8 0, .int .u8 0, .bool false, .bool false] 56 (0, 0)) := by
    have e : w.heap.size + 1 + 1 = ((w.alloc (.cells #[.int .i64 ty, .bool fs] 42)).alloc (.cells #[.bool cg, .bool ca, .bool cr, .int .u16 (uv t), .int .u16 (uv m)] 24)).heap.size := by simp
    rw [e]; exact heap_alloc_new _ _
  have hb3 : Below w.heap.size w (((w.alloc (.cells #[.int .i64 ty, .bool fs] 42)).alloc (.cells #[.bool cg, .bool ca, .bool cr, .int .u16 (uv t), .int .u16 (uv m)] 24)).alloc (.cells #[.int .u8 0, .int .u8 0, .bool false, .bool false] 56)) := gr_tr (gr_tr (gr_alloc _ _) (gr_alloc _ _)) (gr_alloc _ _)
  have HH := Lib.hid hh; clear hh
  have HB3 := Lib.hid hb3; clear hb3
  have HV := Lib.hid hv; clear hv
  have HM := Lib.hid hm; clear hm
  have HS1 := Lib.hid hs; clear hs
  have HN := Lib.hid hn; clear hn
  have HN2 := Lib.hid hn2; clear hn2
  have HG := Lib.hid hg; clear hg
  have HA := Lib.hid ha; clear ha
  have HR := Lib.hid hr; clear hr
  have HX := Lib.hid hx; clear hx
  have HES := Lib.hid hes; clear hes
  obtain ⟨bg, hbg⟩ : ∃ b, (g != x) = b := ⟨_, rfl⟩
  obtain ⟨ba, hba⟩ : ∃ b, ((a ^^^ t) &&& m != 0#16) = b := ⟨_, rfl⟩
  obtain ⟨br, hbr⟩ : ∃ b, ((ty != 3) && (r != y)) = b := ⟨_, rfl⟩
  rw [hbg, hba, hbr]
  have HBG := Lib.hid hbg; clear hbg
  have HBA := Lib.hid hba; clear hba
  have HBR := Lib.hid hbr; clear hbr
  go_enter Try.func15, Try.ntmps15
  go_wp2_with (first
    | (go_at_call 22; refine (Guard_at _ _ _ _ _ _ _ 0 _ (HV.out.below HB3.out) (HM.out.below HB3.out) HS1.out HN.out HX.out).mono ?_; rintro e w1 ⟨rfl, hw1⟩; have d0 : w1.cell? ⟨w.heap.size, 0, none⟩ = some (.int .i64 ty) := below_get hw1 (by simp [go_sem]); have d1 : w1.cell? ⟨w.heap.size, 1, none⟩ = some (.bool fs) := below_get hw1 (by simp [go_sem]); have e0 : w1.cell? ⟨w.heap.size + 1, 0, none⟩ = some (.bool cg) := below_get hw1 (by simp [go_sem]); have e1 : w1.cell? ⟨w.heap.size + 1, 1, none⟩ = some (.bool ca) := below_get hw1 (by simp [go_sem]); have e2 : w1.cell? ⟨w.heap.size + 1, 2, none⟩ = some (.bool cr) := below_get hw1 (by simp [go_sem]); have e3 : w1.cell? ⟨w.heap.size + 1, 3, none⟩ = some (.int .u16 (uv t)) := below_get hw1 (by simp [go_sem]); have e4 : w1.cell? ⟨w.heap.size + 1, 4, none⟩ = some (.int .u16 (uv m)) := below_get hw1 (by simp [go_sem]); have S1 := Lib.hid ((hw1.block _ (block_lt HH.out)).trans HH.out); have B1 := Lib.hid (gr_tr HB3.out hw1); clear hw1)
    | (go_at_call 16; refine (Read_at _ _ _ _ g a r _ (HM.out.below B1.out) HN2.out HG.out HA.out HR.out).mono ?_; rintro e w2 ⟨rfl, hw2⟩; replace d0 := below_get hw2 d0; replace d1 := below_get hw2 d1; replace e0 := below_get hw2 e0; replace e1 := below_get hw2 e1; replace e2 := below_get hw2 e2; replace e3 := below_get hw2 e3; replace e4 := below_get hw2 e4; have S2 := Lib.hid ((hw2.block _ (block_lt S1.out)).trans S1.out); have B2 := Lib.hid (gr_tr B1.out hw2); clear hw2)
    | (refine wpList_store_new rfl 40 (.tmp 14) _ rfl #[.int .u16 (uv g), .int .u16 (uv a), .int .u32 (uv r)] 40 #[.int .u16 0, .int .u16 0, .int .u32 0] rfl rfl (by kernel_rfl) rfl (by simp [Value.oneCell']) ?_; intro w3 hr3 hb3; replace d0 := below_get hb3 d0; replace d1 := below_get hb3 d1; replace e0 := below_get hb3 e0; replace e1 := below_get hb3 e1; replace e2 := below_get hb3 e2; replace e3 := below_get hb3 e3; replace e4 := below_get hb3 e4; have k0 := cell_of_row _ _ 0 _ _ _ hr3; have k1 := cell_of_row _ _ 1 _ _ _ hr3; have k2 := cell_of_row _ _ 2 _ _ _ hr3; simp at k0 k1 k2; have S3 := Lib.hid ((hb3.block _ (block_lt S2.out)).trans S2.out); have B3 := Lib.hid (gr_tr B2.out hb3); clear hr3 hb3)
    | (go_at_call 28; refine (escapes_any _ _ _ _ _ _ _ HES.out).mono ?_; rintro e w4 ⟨rfl, hw4⟩; replace d0 := below_get hw4 d0; replace e0 := below_get hw4 e0; replace e1 := below_get hw4 e1; replace e2 := below_get hw4 e2; replace e3 := below_get hw4 e3; replace e4 := below_get hw4 e4; replace k0 := below_get hw4 k0; replace k1 := below_get hw4 k1; replace k2 := below_get hw4 k2; have S4 := Lib.hid ((hw4.block _ (block_lt S3.out)).trans S3.out); have B4 := Lib.hid (gr_tr B3.out hw4); clear hw4)
    | (go_at_call 7; refine (comparisons_any _ _ _ _ _ _ _ _ _ _ _ _).mono ?_; rintro e w5 ⟨rfl, hcw, hw5⟩; have S5 := Lib.hid ((hw5.block _ (block_lt S4.out)).trans S4.out); have B5 := Lib.hid (gr_tr B4.out hw5); have HC := Lib.hid hcw; clear hw5 hcw d0 d1 e0 e1 e2 e3 e4 k0 k1 k2; simp only [Prot.cmps]; generalize w4.heap.size = n at *))
  go_loopw [51] (fun i wr => ∃ k : Nat, k ≤ 3 ∧ i = .int .i64 k ∧ Prot.CmpW wr n t m g a r x ty y ∧ wr.heap[w.heap.size + 1 + 1]? = some (.cells #[.int .u8 0, .int .u8 0, .bool false, .bool false] 56 (0, 0)) ∧ Below w.heap.size w wr ∧ (0 < k → (cg && bg) = false) ∧ (1 < k → (ca && ba) = false) ∧ (2 < k → (cr && br) = false)) (fun i _ => 3 - (intOf i).toNat)
  case atStart => exact ⟨0, by omega, rfl, HC.out, S5.out, B5.out, fun h => absurd h (by omega), fun h => absurd h (by omega), fun h => absurd h (by omega)⟩
  case round =>
    obtain ⟨k, hk, rfl, hc, hst, hb, h1, h2, h3⟩ := hrel
    clear S1 S2 S3 S4 S5 B1 B2 B3 B4 B5 HC HX HES HG HA HR HN HN2 HS1 HV HM HH HB3
    have HC := Lib.hid hc; clear hc
    have S := Lib.hid hst; clear hst
    have B := Lib.hid hb; clear hb
    have H1 := Lib.hid h1; clear h1
    have H2 := Lib.hid h2; clear h2
    have H3 := Lib.hid h3; clear h3
    obtain rfl | rfl | rfl | rfl : k = 0 ∨ k = 1 ∨ k = 2 ∨ k = 3 := by omega
    · cases cg
      · go_wp2_with (first
          | (refine wpList_index_cmp rfl (.tmp 50) (.tmp 51) rfl _ _ _ _ _ _ _ _ _ _ _ _ rfl _ rfl _ (by first | exact .inl ⟨rfl, rfl⟩ | exact .inr (.inl ⟨rfl, rfl⟩) | exact .inr (.inr ⟨rfl, rfl⟩)) ?_)
          | (refine wpList_store_new rfl 35 (.tmp 17) (.tmp 53) rfl _ 35 #[.string ⟨#[]⟩, .int .u8 0, .bool false, .nilFunc] rfl rfl (by kernel_rfl) (by rfl) (by simp [Value.oneCell']) ?_; intro w7 hr7 hb7; have k1 := cell_of_row _ _ 1 _ _ _ hr7; have k2 := cell_of_row _ _ 2 _ _ _ hr7; have k3 := cell_of_row _ _ 3 _ _ _ hr7; simp at k1 k2 k3; have C7 := Lib.hid (HC.out.below hb7); have S7 := Lib.hid ((hb7.block _ (block_lt S.out)).trans S.out); have B7 := Lib.hid (gr_tr B.out hb7); clear hr7 hb7)
          | (go_at_call 18; refine (cmp1_any _ _ g x _ _ C7.out.g C7.out.x HBG.out).mono ?_; rintro e w8 ⟨rfl, rfl⟩)
          | (refine wpList_store_row rfl 56 (.tmp 10) _ rfl (w.heap.size + 1 + 1) #[.int .u8 2, .int .u8 130, .bool false, .bool true] rfl rfl 56 #[.int .u8 0, .int .u8 0, .bool false, .bool false] S7.out (by kernel_rfl) rfl (by simp [Value.oneCell']) ?_))
        go_roundw
        case rel => exact ⟨1, by omega, by go_num, C7.out, S7.out, B7.out, fun _ => rfl, fun h => absurd h (by omega), fun h => absurd h (by omega)⟩
        case measure => simp [intOf]
      · cases bg
        · go_wp2_with (first
            | (refine wpList_index_cmp rfl (.tmp 50) (.tmp 51) rfl _ _ _ _ _ _ _ _ _ _ _ _ rfl _ rfl _ (by first | exact .inl ⟨rfl, rfl⟩ | exact .inr (.inl ⟨rfl, rfl⟩) | exact .inr (.inr ⟨rfl, rfl⟩)) ?_)
            | (refine wpList_store_new rfl 35 (.tmp 17) (.tmp 53) rfl _ 35 #[.string ⟨#[]⟩, .int .u8 0, .bool false, .nilFunc] rfl rfl (by kernel_rfl) (by rfl) (by simp [Value.oneCell']) ?_; intro w7 hr7 hb7; have k1 := cell_of_row _ _ 1 _ _ _ hr7; have k2 := cell_of_row _ _ 2 _ _ _ hr7; have k3 := cell_of_row _ _ 3 _ _ _ hr7; simp at k1 k2 k3; have C7 := Lib.hid (HC.out.below hb7); have S7 := Lib.hid ((hb7.block _ (block_lt S.out)).trans S.out); have B7 := Lib.hid (gr_tr B.out hb7); clear hr7 hb7)
            | (go_at_call 18; refine (cmp1_any _ _ g x _ _ C7.out.g C7.out.x HBG.out).mono ?_; rintro e w8 ⟨rfl, rfl⟩)
            | (refine wpList_store_row rfl 56 (.tmp 10) _ rfl (w.heap.size + 1 + 1) #[.int .u8 2, .int .u8 130, .bool false, .bool true] rfl rfl 56 #[.int .u8 0, .int .u8 0, .bool false, .bool false] S7.out (by kernel_rfl) rfl (by simp [Value.oneCell']) ?_))
          go_roundw
          case rel => exact ⟨1, by omega, by go_num, C7.out, S7.out, B7.out, fun _ => rfl, fun h => absurd h (by omega), fun h => absurd h (by omega)⟩
          case measure => simp [intOf]
        · go_wp2_with (first
            | (refine wpList_index_cmp rfl (.tmp 50) (.tmp 51) rfl _ _ _ _ _ _ _ _ _ _ _ _ rfl _ rfl _ (by first | exact .inl ⟨rfl, rfl⟩ | exact .inr (.inl ⟨rfl, rfl⟩) | exact .inr (.inr ⟨rfl, rfl⟩)) ?_)
            | (refine wpList_store_new rfl 35 (.tmp 17) (.tmp 53) rfl _ 35 #[.string ⟨#[]⟩, .int .u8 0, .bool false, .nilFunc] rfl rfl (by kernel_rfl) (by rfl) (by simp [Value.oneCell']) ?_; intro w7 hr7 hb7; have k1 := cell_of_row _ _ 1 _ _ _ hr7; have k2 := cell_of_row _ _ 2 _ _ _ hr7; have k3 := cell_of_row _ _ 3 _ _ _ hr7; simp at k1 k2 k3; have C7 := Lib.hid (HC.out.below hb7); have S7 := Lib.hid ((hb7.block _ (block_lt S.out)).trans S.out); have B7 := Lib.hid (gr_tr B.out hb7); clear hr7 hb7)
            | (go_at_call 18; refine (cmp1_any _ _ g x _ _ C7.out.g C7.out.x HBG.out).mono ?_; rintro e w8 ⟨rfl, rfl⟩)
            | (refine wpList_store_row rfl 56 (.tmp 10) _ rfl (w.heap.size + 1 + 1) #[.int .u8 2, .int .u8 130, .bool false, .bool true] rfl rfl 56 #[.int .u8 0, .int .u8 0, .bool false, .bool false] S7.out (by kernel_rfl) rfl (by simp [Value.oneCell']) ?_))
          exact bodyPost_ret (results_row_tmp rfl _ _ (w.heap.size + 1 + 1) 56 _ (0, 0) _ rfl (setRow_heap _ _ _ _ _ _ S7.out) Try.underlying56 rfl (by kernel_rfl)) rfl ⟨by rw [show Prot.code3 (true && true) (ca && ba) (cr && br) = 130 from rfl]; rfl, below_setRow B7.out (by omega) _⟩
    · cases ca
      · go_wp2_with (first
          | (refine wpList_index_cmp rfl (.tmp 50) (.tmp 51) rfl _ _ _ _ _ _ _ _ _ _ _ _ rfl _ rfl _ (by first | exact .inl ⟨rfl, rfl⟩ | exact .inr (.inl ⟨rfl, rfl⟩) | exact .inr (.inr ⟨rfl, rfl⟩)) ?_)
          | (refine wpList_store_new rfl 35 (.tmp 17) (.tmp 53) rfl _ 35 #[.string ⟨#[]⟩, .int .u8 0, .bool false, .nilFunc] rfl rfl (by kernel_rfl) (by rfl) (by simp [Value.oneCell']) ?_; intro w7 hr7 hb7; have k1 := cell_of_row _ _ 1 _ _ _ hr7; have k2 := cell_of_row _ _ 2 _ _ _ hr7; have k3 := cell_of_row _ _ 3 _ _ _ hr7; simp at k1 k2 k3; have C7 := Lib.hid (HC.out.below hb7); have S7 := Lib.hid ((hb7.block _ (block_lt S.out)).trans S.out); have B7 := Lib.hid (gr_tr B.out hb7); clear hr7 hb7)
          | (go_at_call 19; refine (cmp2_any _ _ a t m _ _ C7.out.a C7.out.t C7.out.m HBA.out).mono ?_; rintro e w8 ⟨rfl, rfl⟩)
          | (refine wpList_store_row rfl 56 (.tmp 10) _ rfl (w.heap.size + 1 + 1) #[.int .u8 2, .int .u8 131, .bool false, .bool true] rfl rfl 56 #[.int .u8 0, .int .u8 0, .bool false, .bool false] S7.out (by kernel_rfl) rfl (by simp [Value.oneCell']) ?_))
        go_roundw
        case rel => exact ⟨2, by omega, by go_num, C7.out, S7.out, B7.out, fun _ => H1.out (by omega), fun _ => rfl, fun h => absurd h (by omega)⟩
        case measure => simp [intOf]
      · cases ba
        · go_wp2_with (first
            | (refine wpList_index_cmp rfl (.tmp 50) (.tmp 51) rfl _ _ _ _ _ _ _ _ _ _ _ _ rfl _ rfl _ (by first | exact .inl ⟨rfl, rfl⟩ | exact .inr (.inl ⟨rfl, rfl⟩) | exact .inr (.inr ⟨rfl, rfl⟩)) ?_)
            | (refine wpList_store_new rfl 35 (.tmp 17) (.tmp 53) rfl _ 35 #[.string ⟨#[]⟩, .int .u8 0, .bool false, .nilFunc] rfl rfl (by kernel_rfl) (by rfl) (by simp [Value.oneCell']) ?_; intro w7 hr7 hb7; have k1 := cell_of_row _ _ 1 _ _ _ hr7; have k2 := cell_of_row _ _ 2 _ _ _ hr7; have k3 := cell_of_row _ _ 3 _ _ _ hr7; simp at k1 k2 k3; have C7 := Lib.hid (HC.out.below hb7); have S7 := Lib.hid ((hb7.block _ (block_lt S.out)).trans S.out); have B7 := Lib.hid (gr_tr B.out hb7); clear hr7 hb7)
            | (go_at_call 19; refine (cmp2_any _ _ a t m _ _ C7.out.a C7.out.t C7.out.m HBA.out).mono ?_; rintro e w8 ⟨rfl, rfl⟩)
            | (refine wpList_store_row rfl 56 (.tmp 10) _ rfl (w.heap.size + 1 + 1) #[.int .u8 2, .int .u8 131, .bool false, .bool true] rfl rfl 56 #[.int .u8 0, .int .u8 0, .bool false, .bool false] S7.out (by kernel_rfl) rfl (by simp [Value.oneCell']) ?_))
          go_roundw
          case rel => exact ⟨2, by omega, by go_num, C7.out, S7.out, B7.out, fun _ => H1.out (by omega), fun _ => rfl, fun h => absurd h (by omega)⟩
          case measure => simp [intOf]
        · go_wp2_with (first
            | (refine wpList_index_cmp rfl (.tmp 50) (.tmp 51) rfl _ _ _ _ _ _ _ _ _ _ _ _ rfl _ rfl _ (by first | exact .inl ⟨rfl, rfl⟩ | exact .inr (.inl ⟨rfl, rfl⟩) | exact .inr (.inr ⟨rfl, rfl⟩)) ?_)
            | (refine wpList_store_new rfl 35 (.tmp 17) (.tmp 53) rfl _ 35 #[.string ⟨#[]⟩, .int .u8 0, .bool false, .nilFunc] rfl rfl (by kernel_rfl) (by rfl) (by simp [Value.oneCell']) ?_; intro w7 hr7 hb7; have k1 := cell_of_row _ _ 1 _ _ _ hr7; have k2 := cell_of_row _ _ 2 _ _ _ hr7; have k3 := cell_of_row _ _ 3 _ _ _ hr7; simp at k1 k2 k3; have C7 := Lib.hid (HC.out.below hb7); have S7 := Lib.hid ((hb7.block _ (block_lt S.out)).trans S.out); have B7 := Lib.hid (gr_tr B.out hb7); clear hr7 hb7)
            | (go_at_call 19; refine (cmp2_any _ _ a t m _ _ C7.out.a C7.out.t C7.out.m HBA.out).mono ?_; rintro e w8 ⟨rfl, rfl⟩)
            | (refine wpList_store_row rfl 56 (.tmp 10) _ rfl (w.heap.size + 1 + 1) #[.int .u8 2, .int .u8 131, .bool false, .bool true] rfl rfl 56 #[.int .u8 0, .int .u8 0, .bool false, .bool false] S7.out (by kernel_rfl) rfl (by simp [Value.oneCell']) ?_))
          exact bodyPost_ret (results_row_tmp rfl _ _ (w.heap.size + 1 + 1) 56 _ (0, 0) _ rfl (setRow_heap _ _ _ _ _ _ S7.out) Try.underlying56 rfl (by kernel_rfl)) rfl ⟨by rw [show Prot.code3 (cg && bg) (true && true) (cr && br) = 131 by rw [H1.out (by omega)]; rfl]; rfl, below_setRow B7.out (by omega) _⟩
    · cases cr
      · go_wp2_with (first
          | (refine wpList_index_cmp rfl (.tmp 50) (.tmp 51) rfl _ _ _ _ _ _ _ _ _ _ _ _ rfl _ rfl _ (by first | exact .inl ⟨rfl, rfl⟩ | exact .inr (.inl ⟨rfl, rfl⟩) | exact .inr (.inr ⟨rfl, rfl⟩)) ?_)
          | (refine wpList_store_new rfl 35 (.tmp 17) (.tmp 53) rfl _ 35 #[.string ⟨#[]⟩, .int .u8 0, .bool false, .nilFunc] rfl rfl (by kernel_rfl) (by rfl) (by simp [Value.oneCell']) ?_; intro w7 hr7 hb7; have k1 := cell_of_row _ _ 1 _ _ _ hr7; have k2 := cell_of_row _ _ 2 _ _ _ hr7; have k3 := cell_of_row _ _ 3 _ _ _ hr7; simp at k1 k2 k3; have C7 := Lib.hid (HC.out.below hb7); have S7 := Lib.hid ((hb7.block _ (block_lt S.out)).trans S.out); have B7 := Lib.hid (gr_tr B.out hb7); clear hr7 hb7)
          | (go_at_call 20; refine (cmp3_any _ _ _ ty r y _ _ C7.out.ty C7.out.r C7.out.y HBR.out).mono ?_; rintro e w8 ⟨rfl, rfl⟩)
          | (refine wpList_store_row rfl 56 (.tmp 10) _ rfl (w.heap.size + 1 + 1) #[.int .u8 2, .int .u8 132, .bool false, .bool true] rfl rfl 56 #[.int .u8 0, .int .u8 0, .bool false, .bool false] S7.out (by kernel_rfl) rfl (by simp [Value.oneCell']) ?_))
        go_roundw
        case rel => exact ⟨3, by omega, by go_num, C7.out, S7.out, B7.out, fun _ => H1.out (by omega), fun _ => H2.out (by omega), fun _ => rfl⟩
        case measure => simp [intOf]
      · cases br
        · go_wp2_with (first
            | (refine wpList_index_cmp rfl (.tmp 50) (.tmp 51) rfl _ _ _ _ _ _ _ _ _ _ _ _ rfl _ rfl _ (by first | exact .inl ⟨rfl, rfl⟩ | exact .inr (.inl ⟨rfl, rfl⟩) | exact .inr (.inr ⟨rfl, rfl⟩)) ?_)
            | (refine wpList_store_new rfl 35 (.tmp 17) (.tmp 53) rfl _ 35 #[.string ⟨#[]⟩, .int .u8 0, .bool false, .nilFunc] rfl rfl (by kernel_rfl) (by rfl) (by simp [Value.oneCell']) ?_; intro w7 hr7 hb7; have k1 := cell_of_row _ _ 1 _ _ _ hr7; have k2 := cell_of_row _ _ 2 _ _ _ hr7; have k3 := cell_of_row _ _ 3 _ _ _ hr7; simp at k1 k2 k3; have C7 := Lib.hid (HC.out.below hb7); have S7 := Lib.hid ((hb7.block _ (block_lt S.out)).trans S.out); have B7 := Lib.hid (gr_tr B.out hb7); clear hr7 hb7)
            | (go_at_call 20; refine (cmp3_any _ _ _ ty r y _ _ C7.out.ty C7.out.r C7.out.y HBR.out).mono ?_; rintro e w8 ⟨rfl, rfl⟩)
            | (refine wpList_store_row rfl 56 (.tmp 10) _ rfl (w.heap.size + 1 + 1) #[.int .u8 2, .int .u8 132, .bool false, .bool true] rfl rfl 56 #[.int .u8 0, .int .u8 0, .bool false, .bool false] S7.out (by kernel_rfl) rfl (by simp [Value.oneCell']) ?_))
          go_roundw
          case rel => exact ⟨3, by omega, by go_num, C7.out, S7.out, B7.out, fun _ => H1.out (by omega), fun _ => H2.out (by omega), fun _ => rfl⟩
          case measure => simp [intOf]
        · go_wp2_with (first
            | (refine wpList_index_cmp rfl (.tmp 50) (.tmp 51) rfl _ _ _ _ _ _ _ _ _ _ _ _ rfl _ rfl _ (by first | exact .inl ⟨rfl, rfl⟩ | exact .inr (.inl ⟨rfl, rfl⟩) | exact .inr (.inr ⟨rfl, rfl⟩)) ?_)
            | (refine wpList_store_new rfl 35 (.tmp 17) (.tmp 53) rfl _ 35 #[.string ⟨#[]⟩, .int .u8 0, .bool false, .nilFunc] rfl rfl (by kernel_rfl) (by rfl) (by simp [Value.oneCell']) ?_; intro w7 hr7 hb7; have k1 := cell_of_row _ _ 1 _ _ _ hr7; have k2 := cell_of_row _ _ 2 _ _ _ hr7; have k3 := cell_of_row _ _ 3 _ _ _ hr7; simp at k1 k2 k3; have C7 := Lib.hid (HC.out.below hb7); have S7 := Lib.hid ((hb7.block _ (block_lt S.out)).trans S.out); have B7 := Lib.hid (gr_tr B.out hb7); clear hr7 hb7)
            | (go_at_call 20; refine (cmp3_any _ _ _ ty r y _ _ C7.out.ty C7.out.r C7.out.y HBR.out).mono ?_; rintro e w8 ⟨rfl, rfl⟩)
            | (refine wpList_store_row rfl 56 (.tmp 10) _ rfl (w.heap.size + 1 + 1) #[.int .u8 2, .int .u8 132, .bool false, .bool true] rfl rfl 56 #[.int .u8 0, .int .u8 0, .bool false, .bool false] S7.out (by kernel_rfl) rfl (by simp [Value.oneCell']) ?_))
          exact bodyPost_ret (results_row_tmp rfl _ _ (w.heap.size + 1 + 1) 56 _ (0, 0) _ rfl (setRow_heap _ _ _ _ _ _ S7.out) Try.underlying56 rfl (by kernel_rfl)) rfl ⟨by rw [show Prot.code3 (cg && bg) (ca && ba) (true && true) = 132 by rw [H1.out (by omega), H2.out (by omega)]; rfl]; rfl, below_setRow B7.out (by omega) _⟩
    · go_wp2_with (refine wpList_store_row rfl 56 (.tmp 10) _ rfl (w.heap.size + 1 + 1) #[.int .u8 0, .int .u8 0, .bool false, .bool false] rfl rfl 56 #[.int .u8 0, .int .u8 0, .bool false, .bool false] S.out (by kernel_rfl) rfl (by simp [Value.oneCell']) ?_)
      exact bodyPost_ret (results_row_tmp rfl _ _ (w.heap.size + 1 + 1) 56 _ (0, 0) _ rfl (setRow_heap _ _ _ _ _ _ S.out) Try.underlying56 rfl (by kernel_rfl)) rfl ⟨by rw [H1.out (by omega), H2.out (by omega), H3.out (by omega)]; rfl, below_setRow B.out (by omega) _⟩
end Go.Proofs.Ytpobkgkjfebhgaa
