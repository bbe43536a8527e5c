/- Places of fields (identify.place): the functions that make them, and the closures that read and write a field. Printed by genida.py. -/
import Derived.Test.YthnnopjakpjoeaaDoorWireB
import Derived.Test.YthnnopjakpjoeaaDoorRows2
import Derived.Test.YthnnopjakpjoeaaDoorOpenG
import Derived.Deep.DeepCutAuto
namespace Go.Proofs.YthnnopjakpjoeaaDoor
open Go.RowKit
set_option linter.unusedVariables false
set_option linter.unusedSimpArgs false
namespace Idn
inductive Kd | u8 | u16 | u32 | u64 | flag
def Kd.size : Kd → Nat | .u8 => 1 | .u16 => 2 | .u32 => 4 | .u64 => 8 | .flag => 2
def Kd.ptr : Kd → TypeId | .u8 => 232 | .u16 => 230 | .u32 => 226 | .u64 => 245 | .flag => 248
def Kd.getF : Kd → FuncId | .u8 => 165 | .u16 => 163 | .u32 => 160 | .u64 => 176 | .flag => 178
def Kd.setF : Kd → FuncId | .u8 => 166 | .u16 => 164 | .u32 => 161 | .u64 => 177 | .flag => 179
/-- The number as the field's kind holds it. -/
def Kd.val : Kd → BitVec 64 → Value
  | .u8, v => .int .u8 (uv (v.setWidth 8)) | .u16, v => .int .u16 (uv (v.setWidth 16)) | .u32, v => .int .u32 (uv (v.setWidth 32)) | .u64, v => .int .u64 (uv v) | .flag, v => .bool (v == 1#64)
def Kd.trunc : Kd → BitVec 64 → BitVec 64
  | .u8, v => (v.setWidth 8).setWidth 64 | .u16, v => (v.setWidth 16).setWidth 64 | .u32, v => (v.setWidth 32).setWidth 64 | .u64, v => v | .flag, v => if v == 1#64 then 1#64 else 0#64
theorem Kd.val_trunc (k : Kd) (v : BitVec 64) : k.val (k.trunc v) = k.val v := by
  cases k <;> simp only [Kd.val, Kd.trunc]
  case u8 => rw [BitVec.setWidth_setWidth_of_le _ (by omega), BitVec.setWidth_eq]
  case u16 => rw [BitVec.setWidth_setWidth_of_le _ (by omega), BitVec.setWidth_eq]
  case u32 => rw [BitVec.setWidth_setWidth_of_le _ (by omega), BitVec.setWidth_eq]
  case flag => split <;> simp_all
theorem Kd.size_pos (k : Kd) : 1 ≤ k.size ∧ k.size ≤ 8 := by cases k <;> simp [Kd.size]
theorem Kd.one (k : Kd) (v : BitVec 64) : (k.val v).oneCell' = true := by cases k <;> rfl
/-- A place: where in the structure, of which kind, which cell, and the cell that holds the pointer. -/
structure Pl where
  at' : Nat
  k : Kd
  X : Nat
  o : Nat
  box : Nat
def Pl.cells (p : Pl) : List Value := [.int .i64 p.at', .int .i64 (p.k.size : Nat), .func (.func p.k.getF) #[] #[.pointer (some ⟨p.box, 0, none⟩)], .func (.func p.k.setF) #[] #[.pointer (some ⟨p.box, 0, none⟩)]]
theorem Pl.cells_len : ∀ p, (Pl.cells p).length = 4 := fun _ => rfl
theorem Pl.cells_one (p : Pl) : p.cells.toArray.all (·.oneCell') = true := by simp [Pl.cells, Value.oneCell']
def Pl.ok (w : World) (p : Pl) : Prop := w.heap[p.box]? = some (.cells #[.pointer (some ⟨p.X, p.o, none⟩)] p.k.ptr (0, 0))
theorem Pl.ok.below {w w' : World} {p : Pl} (h : p.ok w) (hb : Below w.heap.size w w') : p.ok w' := blk_below h hb
theorem Pl.ok.chg {B : Nat → Prop} {w w' : World} {p : Pl} (h : p.ok w) (hb : Chg B w w') (hn : ¬ B p.box) : p.ok w' := hb.blk h hn
end Idn
open Idn
theorem store_new2 {P : Program} {ops : Array Oper} {rest : List Oper} {o : Oper} {a : Act} {w : World} {o1 : Obj} {Q : Exit → Act → World → Prop} (hgd : o.guard = none) (ty : TypeId) (x y : Operand) (ho : o.op = .store ty x y)
    (cells : Array Value) (t : TypeId) (old : Array Value) (hx : a.eval x = .pointer (some ⟨w.heap.size + 1, 0, none⟩)) (hy : a.eval y = .agg cells)
    (hi : (P.info? ty).map (·.size) = some cells.size) (hold : old.size = cells.size) (h1 : cells.all (·.oneCell') = true)
    (h : ∀ w', w'.heap[w.heap.size + 1]? = some (.cells cells t (0, 0)) → Below (w.alloc o1).heap.size (w.alloc o1) w' → wpList P ops Q rest (a.put o.dst undef) w') : wpList P ops Q (o :: rest) a ((w.alloc o1).alloc (.cells old t)) := by
  refine wpList_store_new hgd ty x y ho cells t old (by rw [World.size_alloc]; exact hx) hy hi hold h1 ?_
  intro w' h2 h3
  rw [World.size_alloc] at h2
  exact h w' h2 h3
theorem get_u8 (X o box : Nat) (v : BitVec 64) (w : World) (hb : w.heap[box]? = some (.cells #[.pointer (some ⟨X, o, none⟩)] 232 (0, 0))) (hc : w.cell? ⟨X, o, none⟩ = some (.int .u8 (uv (v.setWidth 8)))) (hv : (v.setWidth 8).setWidth 64 = v) :
    Calls Tryd.prog 165 #[.pointer (some ⟨box, 0, none⟩)] w fun e w' => e = .returned (.int .u64 (uv v)) ∧ w = w' := by
  have c0 : w.cell? ⟨box, 0, none⟩ = some (.pointer (some ⟨X, o, none⟩)) := (cell_of_row _ _ 0 _ _ _ hb).trans rfl
  have HV := Lib.hid hv
  obtain ⟨y, hy⟩ : ∃ y, v.setWidth 8 = y := ⟨_, rfl⟩
  rw [hy] at hc HV
  clear hb hv hy
  go_enter Tryd.func165, Tryd.ntmps165
  go_wp2
  go_ret
  exact ⟨by rw [← HV.out]; rfl, rfl⟩
theorem get_u16 (X o box : Nat) (v : BitVec 64) (w : World) (hb : w.heap[box]? = some (.cells #[.pointer (some ⟨X, o, none⟩)] 230 (0, 0))) (hc : w.cell? ⟨X, o, none⟩ = some (.int .u16 (uv (v.setWidth 16)))) (hv : (v.setWidth 16).setWidth 64 = v) :
    Calls Tryd.prog 163 #[.pointer (some ⟨box, 0, none⟩)] w fun e w' => e = .returned (.int .u64 (uv v)) ∧ w = w' := by
  have c0 : w.cell? ⟨box, 0, none⟩ = some (.pointer (some ⟨X, o, none⟩)) := (cell_of_row _ _ 0 _ _ _ hb).trans rfl
  have HV := Lib.hid hv
  obtain ⟨y, hy⟩ : ∃ y, v.setWidth 16 = y := ⟨_, rfl⟩
  rw [hy] at hc HV
  clear hb hv hy
  go_enter Tryd.func163, Tryd.ntmps163
  go_wp2
  go_ret
  exact ⟨by rw [← HV.out]; rfl, rfl⟩
theorem get_u32 (X o box : Nat) (v : BitVec 64) (w : World) (hb : w.heap[box]? = some (.cells #[.pointer (some ⟨X, o, none⟩)] 226 (0, 0))) (hc : w.cell? ⟨X, o, none⟩ = some (.int .u32 (uv (v.setWidth 32)))) (hv : (v.setWidth 32).setWidth 64 = v) :
    Calls Tryd.prog 160 #[.pointer (some ⟨box, 0, none⟩)] w fun e w' => e = .returned (.int .u64 (uv v)) ∧ w = w' := by
  have c0 : w.cell? ⟨box, 0, none⟩ = some (.pointer (some ⟨X, o, none⟩)) := (cell_of_row _ _ 0 _ _ _ hb).trans rfl
  have HV := Lib.hid hv
  obtain ⟨y, hy⟩ : ∃ y, v.setWidth 32 = y := ⟨_, rfl⟩
  rw [hy] at hc HV
  clear hb hv hy
  go_enter Tryd.func160, Tryd.ntmps160
  go_wp2
  go_ret
  exact ⟨by rw [← HV.out]; rfl, rfl⟩
theorem get_u64 (X o box : Nat) (v : BitVec 64) (w : World) (hb : w.heap[box]? = some (.cells #[.pointer (some ⟨X, o, none⟩)] 245 (0, 0))) (hc : w.cell? ⟨X, o, none⟩ = some (.int .u64 (uv (v.setWidth 64)))) (hv : (v.setWidth 64).setWidth 64 = v) :
    Calls Tryd.prog 176 #[.pointer (some ⟨box, 0, none⟩)] w fun e w' => e = .returned (.int .u64 (uv v)) ∧ w = w' := by
  have c0 : w.cell? ⟨box, 0, none⟩ = some (.pointer (some ⟨X, o, none⟩)) := (cell_of_row _ _ 0 _ _ _ hb).trans rfl
  have HV := Lib.hid hv
  obtain ⟨y, hy⟩ : ∃ y, v.setWidth 64 = y := ⟨_, rfl⟩
  rw [hy] at hc HV
  clear hb hv hy
  go_enter Tryd.func176, Tryd.ntmps176
  go_wp2
  go_ret
  exact ⟨by rw [← HV.out]; simp, rfl⟩
theorem get_flag (X o box : Nat) (v : BitVec 64) (w : World) (hb : w.heap[box]? = some (.cells #[.pointer (some ⟨X, o, none⟩)] 248 (0, 0))) (hc : w.cell? ⟨X, o, none⟩ = some (.bool (v == 1#64))) (hv : (if v == 1#64 then 1#64 else 0#64) = v) :
    Calls Tryd.prog 178 #[.pointer (some ⟨box, 0, none⟩)] w fun e w' => e = .returned (.int .u64 (uv v)) ∧ w = w' := by
  have c0 : w.cell? ⟨box, 0, none⟩ = some (.pointer (some ⟨X, o, none⟩)) := (cell_of_row _ _ 0 _ _ _ hb).trans rfl
  have HV := Lib.hid hv
  obtain ⟨y, hy⟩ : ∃ y, (v == 1#64) = y := ⟨_, rfl⟩
  rw [hy] at hc HV
  clear hb hv hy
  cases y
  · go_enter Tryd.func178, Tryd.ntmps178
    go_wp2
    go_ret
    exact ⟨by rw [← HV.out]; rfl, rfl⟩
  · go_enter Tryd.func178, Tryd.ntmps178
    go_wp2
    go_ret
    exact ⟨by rw [← HV.out]; rfl, rfl⟩
theorem get_any (p : Pl) (v : BitVec 64) (w : World) (hb : p.ok w) (hc : w.cell? ⟨p.X, p.o, none⟩ = some (p.k.val v)) (hv : p.k.trunc v = v) :
    Calls Tryd.prog p.k.getF #[.pointer (some ⟨p.box, 0, none⟩)] w fun e w' => e = .returned (.int .u64 (uv v)) ∧ w = w' := by
  obtain ⟨a, k, X, o, box⟩ := p
  cases k
  · exact get_u8 X o box v w hb hc hv
  · exact get_u16 X o box v w hb hc hv
  · exact get_u32 X o box v w hb hc hv
  · exact get_u64 X o box v w hb (by rw [BitVec.setWidth_eq]; exact hc) (by simp)
  · exact get_flag X o box v w hb hc hv
theorem set_u8 (X o box : Nat) (v : BitVec 64) (old : Value) (w : World) (hb : w.heap[box]? = some (.cells #[.pointer (some ⟨X, o, none⟩)] 232 (0, 0))) (hc : w.cell? ⟨X, o, none⟩ = some old) (hf : w.frozen? ⟨X, o, none⟩ = false) :
    Calls Tryd.prog 166 #[.int .u64 (uv v), .pointer (some ⟨box, 0, none⟩)] w fun e w' => e = .returned (.tuple #[]) ∧ w.setCell ⟨X, o, none⟩ (.int .u8 (uv (v.setWidth 8))) = w' := by
  have c0 : w.cell? ⟨box, 0, none⟩ = some (.pointer (some ⟨X, o, none⟩)) := (cell_of_row _ _ 0 _ _ _ hb).trans rfl
  clear hb
  go_enter Tryd.func166, Tryd.ntmps166
  go_wp2
  go_end0
  exact ⟨rfl, rfl⟩
theorem set_u16 (X o box : Nat) (v : BitVec 64) (old : Value) (w : World) (hb : w.heap[box]? = some (.cells #[.pointer (some ⟨X, o, none⟩)] 230 (0, 0))) (hc : w.cell? ⟨X, o, none⟩ = some old) (hf : w.frozen? ⟨X, o, none⟩ = false) :
    Calls Tryd.prog 164 #[.int .u64 (uv v), .pointer (some ⟨box, 0, none⟩)] w fun e w' => e = .returned (.tuple #[]) ∧ w.setCell ⟨X, o, none⟩ (.int .u16 (uv (v.setWidth 16))) = w' := by
  have c0 : w.cell? ⟨box, 0, none⟩ = some (.pointer (some ⟨X, o, none⟩)) := (cell_of_row _ _ 0 _ _ _ hb).trans rfl
  clear hb
  go_enter Tryd.func164, Tryd.ntmps164
  go_wp2
  go_end0
  exact ⟨rfl, rfl⟩
theorem set_u32 (X o box : Nat) (v : BitVec 64) (old : Value) (w : World) (hb : w.heap[box]? = some (.cells #[.pointer (some ⟨X, o, none⟩)] 226 (0, 0))) (hc : w.cell? ⟨X, o, none⟩ = some old) (hf : w.frozen? ⟨X, o, none⟩ = false) :
    Calls Tryd.prog 161 #[.int .u64 (uv v), .pointer (some ⟨box, 0, none⟩)] w fun e w' => e = .returned (.tuple #[]) ∧ w.setCell ⟨X, o, none⟩ (.int .u32 (uv (v.setWidth 32))) = w' := by
  have c0 : w.cell? ⟨box, 0, none⟩ = some (.pointer (some ⟨X, o, none⟩)) := (cell_of_row _ _ 0 _ _ _ hb).trans rfl
  clear hb
  go_enter Tryd.func161, Tryd.ntmps161
  go_wp2
  go_end0
  exact ⟨rfl, rfl⟩
theorem set_u64 (X o box : Nat) (v : BitVec 64) (old : Value) (w : World) (hb : w.heap[box]? = some (.cells #[.pointer (some ⟨X, o, none⟩)] 245 (0, 0))) (hc : w.cell? ⟨X, o, none⟩ = some old) (hf : w.frozen? ⟨X, o, none⟩ = false) :
    Calls Tryd.prog 177 #[.int .u64 (uv v), .pointer (some ⟨box, 0, none⟩)] w fun e w' => e = .returned (.tuple #[]) ∧ w.setCell ⟨X, o, none⟩ (.int .u64 (uv (v.setWidth 64))) = w' := by
  have c0 : w.cell? ⟨box, 0, none⟩ = some (.pointer (some ⟨X, o, none⟩)) := (cell_of_row _ _ 0 _ _ _ hb).trans rfl
  clear hb
  go_enter Tryd.func177, Tryd.ntmps177
  go_wp2
  go_end0
  exact ⟨rfl, rfl⟩
theorem set_flag (X o box : Nat) (v : BitVec 64) (old : Value) (w : World) (hb : w.heap[box]? = some (.cells #[.pointer (some ⟨X, o, none⟩)] 248 (0, 0))) (hc : w.cell? ⟨X, o, none⟩ = some old) (hf : w.frozen? ⟨X, o, none⟩ = false) :
    Calls Tryd.prog 179 #[.int .u64 (uv v), .pointer (some ⟨box, 0, none⟩)] w fun e w' => e = .returned (.tuple #[]) ∧ w.setCell ⟨X, o, none⟩ (.bool (v == 1#64)) = w' := by
  have c0 : w.cell? ⟨box, 0, none⟩ = some (.pointer (some ⟨X, o, none⟩)) := (cell_of_row _ _ 0 _ _ _ hb).trans rfl
  have hq : (uv v == 1) = (v == 1#64) := uv_beq v 1#64
  obtain ⟨y, hy⟩ : ∃ y, (v == 1#64) = y := ⟨_, rfl⟩
  rw [hy] at hq ⊢
  clear hb hy
  go_enter Tryd.func179, Tryd.ntmps179
  go_wp2
  go_end0
  exact ⟨rfl, rfl⟩
theorem set_any (p : Pl) (v : BitVec 64) (old : Value) (w : World) (hb : p.ok w) (hc : w.cell? ⟨p.X, p.o, none⟩ = some old) (hf : w.frozen? ⟨p.X, p.o, none⟩ = false) :
    Calls Tryd.prog p.k.setF #[.int .u64 (uv v), .pointer (some ⟨p.box, 0, none⟩)] w fun e w' => e = .returned (.tuple #[]) ∧ w.setCell ⟨p.X, p.o, none⟩ (p.k.val v) = w' := by
  obtain ⟨a, k, X, o, box⟩ := p
  cases k
  · exact set_u8 X o box v old w hb hc hf
  · exact set_u16 X o box v old w hb hc hf
  · exact set_u32 X o box v old w hb hc hf
  · have := set_u64 X o box v old w hb hc hf
    rw [BitVec.setWidth_eq] at this
    exact this
  · exact set_flag X o box v old w hb hc hf
set_option maxRecDepth 100000 in
theorem at_u8 (X o : Nat) (a : Nat) (w : World) :
    Calls Tryd.prog 131 #[.pointer (some ⟨X, o, none⟩), .int .i64 a, .int .i64 1] w fun e w' => ∃ box, e = .returned (.agg (Pl.cells ⟨a, .u8, X, o, box⟩).toArray) ∧ w.heap.size ≤ box ∧ Pl.ok w' ⟨a, .u8, X, o, box⟩ ∧ Below w.heap.size w w' := by
  have hmf : ∀ (fn : Fn) (first cap : Array Value) (w : World), (Instr.makeFunc fn first cap).run Tryd.prog w = .ok (.func fn first cap) w := fun _ _ _ _ => rfl
  go_enter Tryd.func131, Tryd.ntmps131
  go_wp2_with (refine store_new2 rfl 224 (.tmp 6) (.tmp 11) rfl (Pl.cells ⟨a, .u8, X, o, w.heap.size⟩).toArray 224 _ rfl rfl (by kernel_rfl) rfl (Pl.cells_one _) ?_; intro w2 hh hb; have HH := Lib.hid hh; have HB := Lib.hid hb; clear hh hb)
  have h2 := HH.out
  refine bodyPost_ret (v := .agg (Pl.cells ⟨a, .u8, X, o, w.heap.size⟩).toArray) (results_cell_row rfl _ _ (w.heap.size + 1) 224 _ (0, 0) _ rfl h2 Tryd.underlying224 rfl (by kernel_rfl)) rfl ⟨w.heap.size, rfl, Nat.le_refl _, blk_below (heap_alloc_new w _) HB.out, gr_tr (gr_alloc w _) HB.out⟩
set_option maxRecDepth 100000 in
theorem at_u16 (X o : Nat) (a : Nat) (w : World) :
    Calls Tryd.prog 130 #[.pointer (some ⟨X, o, none⟩), .int .i64 a, .int .i64 2] w fun e w' => ∃ box, e = .returned (.agg (Pl.cells ⟨a, .u16, X, o, box⟩).toArray) ∧ w.heap.size ≤ box ∧ Pl.ok w' ⟨a, .u16, X, o, box⟩ ∧ Below w.heap.size w w' := by
  have hmf : ∀ (fn : Fn) (first cap : Array Value) (w : World), (Instr.makeFunc fn first cap).run Tryd.prog w = .ok (.func fn first cap) w := fun _ _ _ _ => rfl
  go_enter Tryd.func130, Tryd.ntmps130
  go_wp2_with (refine store_new2 rfl 224 (.tmp 6) (.tmp 11) rfl (Pl.cells ⟨a, .u16, X, o, w.heap.size⟩).toArray 224 _ rfl rfl (by kernel_rfl) rfl (Pl.cells_one _) ?_; intro w2 hh hb; have HH := Lib.hid hh; have HB := Lib.hid hb; clear hh hb)
  have h2 := HH.out
  refine bodyPost_ret (v := .agg (Pl.cells ⟨a, .u16, X, o, w.heap.size⟩).toArray) (results_cell_row rfl _ _ (w.heap.size + 1) 224 _ (0, 0) _ rfl h2 Tryd.underlying224 rfl (by kernel_rfl)) rfl ⟨w.heap.size, rfl, Nat.le_refl _, blk_below (heap_alloc_new w _) HB.out, gr_tr (gr_alloc w _) HB.out⟩
set_option maxRecDepth 100000 in
theorem at_u32 (X o : Nat) (a : Nat) (w : World) :
    Calls Tryd.prog 126 #[.pointer (some ⟨X, o, none⟩), .int .i64 a, .int .i64 4] w fun e w' => ∃ box, e = .returned (.agg (Pl.cells ⟨a, .u32, X, o, box⟩).toArray) ∧ w.heap.size ≤ box ∧ Pl.ok w' ⟨a, .u32, X, o, box⟩ ∧ Below w.heap.size w w' := by
  have hmf : ∀ (fn : Fn) (first cap : Array Value) (w : World), (Instr.makeFunc fn first cap).run Tryd.prog w = .ok (.func fn first cap) w := fun _ _ _ _ => rfl
  go_enter Tryd.func126, Tryd.ntmps126
  go_wp2_with (refine store_new2 rfl 224 (.tmp 6) (.tmp 11) rfl (Pl.cells ⟨a, .u32, X, o, w.heap.size⟩).toArray 224 _ rfl rfl (by kernel_rfl) rfl (Pl.cells_one _) ?_; intro w2 hh hb; have HH := Lib.hid hh; have HB := Lib.hid hb; clear hh hb)
  have h2 := HH.out
  refine bodyPost_ret (v := .agg (Pl.cells ⟨a, .u32, X, o, w.heap.size⟩).toArray) (results_cell_row rfl _ _ (w.heap.size + 1) 224 _ (0, 0) _ rfl h2 Tryd.underlying224 rfl (by kernel_rfl)) rfl ⟨w.heap.size, rfl, Nat.le_refl _, blk_below (heap_alloc_new w _) HB.out, gr_tr (gr_alloc w _) HB.out⟩
set_option maxRecDepth 100000 in
theorem at_u64 (X o : Nat) (a : Nat) (w : World) :
    Calls Tryd.prog 142 #[.pointer (some ⟨X, o, none⟩), .int .i64 a, .int .i64 8] w fun e w' => ∃ box, e = .returned (.agg (Pl.cells ⟨a, .u64, X, o, box⟩).toArray) ∧ w.heap.size ≤ box ∧ Pl.ok w' ⟨a, .u64, X, o, box⟩ ∧ Below w.heap.size w w' := by
  have hmf : ∀ (fn : Fn) (first cap : Array Value) (w : World), (Instr.makeFunc fn first cap).run Tryd.prog w = .ok (.func fn first cap) w := fun _ _ _ _ => rfl
  go_enter Tryd.func142, Tryd.ntmps142
  go_wp2_with (refine store_new2 rfl 224 (.tmp 6) (.tmp 11) rfl (Pl.cells ⟨a, .u64, X, o, w.heap.size⟩).toArray 224 _ rfl rfl (by kernel_rfl) rfl (Pl.cells_one _) ?_; intro w2 hh hb; have HH := Lib.hid hh; have HB := Lib.hid hb; clear hh hb)
  have h2 := HH.out
  refine bodyPost_ret (v := .agg (Pl.cells ⟨a, .u64, X, o, w.heap.size⟩).toArray) (results_cell_row rfl _ _ (w.heap.size + 1) 224 _ (0, 0) _ rfl h2 Tryd.underlying224 rfl (by kernel_rfl)) rfl ⟨w.heap.size, rfl, Nat.le_refl _, blk_below (heap_alloc_new w _) HB.out, gr_tr (gr_alloc w _) HB.out⟩
set_option maxRecDepth 100000 in
theorem at_flag (X o : Nat) (a : Nat) (w : World) :
    Calls Tryd.prog 143 #[.pointer (some ⟨X, o, none⟩), .int .i64 a] w fun e w' => ∃ box, e = .returned (.agg (Pl.cells ⟨a, .flag, X, o, box⟩).toArray) ∧ w.heap.size ≤ box ∧ Pl.ok w' ⟨a, .flag, X, o, box⟩ ∧ Below w.heap.size w w' := by
  have hmf : ∀ (fn : Fn) (first cap : Array Value) (w : World), (Instr.makeFunc fn first cap).run Tryd.prog w = .ok (.func fn first cap) w := fun _ _ _ _ => rfl
  go_enter Tryd.func143, Tryd.ntmps143
  go_wp2_with (refine store_new2 rfl 224 (.tmp 4) (.tmp 8) rfl (Pl.cells ⟨a, .flag, X, o, w.heap.size⟩).toArray 224 _ rfl rfl (by kernel_rfl) rfl (Pl.cells_one _) ?_; intro w2 hh hb; have HH := Lib.hid hh; have HB := Lib.hid hb; clear hh hb)
  have h2 := HH.out
  refine bodyPost_ret (v := .agg (Pl.cells ⟨a, .flag, X, o, w.heap.size⟩).toArray) (results_cell_row rfl _ _ (w.heap.size + 1) 224 _ (0, 0) _ rfl h2 Tryd.underlying224 rfl (by kernel_rfl)) rfl ⟨w.heap.size, rfl, Nat.le_refl _, blk_below (heap_alloc_new w _) HB.out, gr_tr (gr_alloc w _) HB.out⟩
end Go.Proofs.YthnnopjakpjoeaaDoor
