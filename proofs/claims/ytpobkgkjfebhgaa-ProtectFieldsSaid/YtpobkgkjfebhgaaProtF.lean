/- The walks of package protect: Read, Strip, Insert. -/
import Derived.Test.YtpobkgkjfebhgaaProtE
import Derived.Deep.MidRow
namespace Go.Proofs.Ytpobkgkjfebhgaa
open Go.RowKit
set_option linter.unusedVariables false
set_option linter.unusedSimpArgs false

/-- A result in a cell (a row) and one in a slot. -/
theorem results_row_tmp {P : Program} {fn : Func} {p u : Tmp} {ty : TypeId} (h : fn.results = #[.cell p ty, .tmp u]) (tmps : Array Value) (w : World) (g : Nat) (t : TypeId) (cs : Array Value) (fr : Nat × Nat) (d : TypeDesc)
    (hp : tmps.getD p undef = .pointer (some ⟨g, 0, none⟩)) (hg : w.heap[g]? = some (.cells cs t fr))
    (hu : P.underlying ty = some d) (hd : (match d with | .struct _ | .array _ _ => true | _ => false) = true) (hi : (P.info? ty).map (·.size) = some cs.size) :
    (results fn tmps).run P w = .ok (.tuple #[.agg cs, tmps.getD u undef]) w := by
  have hp' : tmps[p]?.getD undef = .pointer (some ⟨g, 0, none⟩) := by simpa using hp
  simp [results, h, hp', asAddr, run_loadVar_row w g t ty cs fr d hg hu hd hi]

@[go_sem] theorem arr8 (a : Option Addr) (c : Nat) (w : World) : (Instr.arrayAt 51 (.slice a 8 c)).run Try.prog w = .ok (.pointer a) w := by
  simp [Instr.arrayAt, go_sem, Try.underlying51]
theorem Row.pos {w : World} {a : Option Addr} {vs : List Value} (h : Row w a vs) (hne : 0 < vs.length) : ∃ b o, a = some ⟨b, o, none⟩ ∧ w.rangeAt b o vs := by
  rcases h with h | ⟨b, o, e, h⟩
  · rw [h] at hne; exact absurd hne (by decide)
  · refine ⟨b, o, e, fun j v hj => ?_⟩
    have hl : j < vs.length := by
      rcases Nat.lt_or_ge j vs.length with h | h
      · exact h
      · rw [List.getElem?_eq_none h] at hj; exact absurd hj (by simp)
    exact (h j hl).trans hj
theorem block_lt {w : World} {g : Nat} {o : Obj} (h : w.heap[g]? = some o) : g < w.heap.size := by
  rcases Nat.lt_or_ge g w.heap.size with k | k
  · exact k
  · rw [Array.getElem?_eq_none k] at h; exact absurd h (by simp)
namespace Prot
/-- The tuple's bytes of metadata. -/
def cut (fs : Bool) (l : List (BitVec 8)) : List (BitVec 8) := (l.drop (place fs l.length)).take 8
theorem cut_len {fs : Bool} {l : List (BitVec 8)} (h : 8 ≤ l.length) : (cut fs l).length = 8 := by
  simp only [cut, List.length_take, List.length_drop, place]; split <;> omega
def rg (ty : Int) (fs : Bool) (l : List (BitVec 8)) : BitVec 16 := if wr ty fs true l.length = 0 then tg (cut fs l) else 0#16
def ra (ty : Int) (fs : Bool) (l : List (BitVec 8)) : BitVec 16 := if wr ty fs true l.length = 0 then ta (cut fs l) else 0#16
def rr (ty : Int) (fs : Bool) (l : List (BitVec 8)) : BitVec 32 := if wr ty fs true l.length = 0 then tr (cut fs l) else 0#32
end Prot

set_option maxHeartbeats 800000 in
set_option maxRecDepth 4000 in
theorem Read_any (ty : Int) (fs : Bool) (m : Value) (lm : List (BitVec 8)) (w : World) (hm : BytesV w m lm) :
    Calls Try.prog 16 #[.agg #[.int .i64 ty, .bool fs], m] w fun e w' => e = .returned (.tuple #[.agg #[.int .u16 (uv (Prot.rg ty fs lm)), .int .u16 (uv (Prot.ra ty fs lm)), .int .u32 (uv (Prot.rr ty fs lm))], .int .i64 (Prot.wr ty fs true lm.length)]) ∧ Below w.heap.size w w' := by
  obtain ⟨n, hn⟩ : ∃ n, Prot.wr ty fs true lm.length = n := ⟨_, rfl⟩
  unfold Prot.rg Prot.ra Prot.rr
  rw [hn]
  have HN := Lib.hid hn; clear hn
  have HM := Lib.hid hm; clear hm
  have hW : ((w.alloc (.cells #[.int .i64 ty, .bool fs] 42)).alloc (.cells #[.int .u16 0, .int .u16 0, .int .u32 0] 40)).heap[w.heap.size + 1]? = some (.cells #[.int .u16 0, .int .u16 0, .int .u32 0] 40 (0, 0)) := heap_alloc2_new _ _ _
  have HW := Lib.hid hW; clear hW
  have hc := HN.out ▸ Prot.wr_cases ty fs true lm.length
  rcases hc with rfl | rfl | rfl
  · obtain ⟨hok, h0, h8⟩ := Prot.wr_ok HN.out
    have hr := (Prot.valid_range hok).1
    replace h0 := h0 rfl
    have hl8 : 8 ≤ lm.length := h8 (by omega)
    have HL8 := Lib.hid hl8; clear hl8 hok h8 h0 hr
    obtain ⟨k, hk⟩ : ∃ k, Prot.cut fs lm = k := ⟨_, rfl⟩
    have hk8 : k.length = 8 := by rw [← hk]; exact Prot.cut_len HL8.out
    rw [hk]
    have HK := Lib.hid hk; clear hk
    have HK8 := Lib.hid hk8; clear hk8
    go_enter Try.func16, Try.ntmps16
    go_wp2_with (first
      | (go_at_call 26; refine (wrong_at _ _ _ _ _ 0 _ (HM.out.below (gr_tr (gr_alloc _ _) (gr_alloc _ _))) HN.out).mono ?_; rintro e w1 ⟨rfl, hw1⟩; have d0 : w1.cell? ⟨w.heap.size, 0, none⟩ = some (.int .i64 ty) := below_get hw1 (by simp [go_sem]); have d1 : w1.cell? ⟨w.heap.size, 1, none⟩ = some (.bool fs) := below_get hw1 (by simp [go_sem]); have b1 := (hw1.block (w.heap.size + 1) (by simp)).trans HW.out; have HB1 := Lib.hid b1; have B1 := Lib.hid (gr_tr (gr_tr (gr_alloc _ _) (gr_alloc _ _)) hw1); clear hw1 b1)
      | (go_at_call 24; refine (parts_any _ _ _ _ _ (HM.out.below B1.out) HL8.out).mono ?_; rintro e w2 ⟨u1, u2, u3, rfl, hu1, hu2, hu3, hw2⟩; have b2 := (hw2.block (w.heap.size + 1) (block_lt HB1.out)).trans HB1.out; have HB2 := Lib.hid b2; have B2 := Lib.hid (gr_tr B1.out hw2); change BytesV w2 u2 (Prot.cut fs lm) at hu2; rw [HK.out] at hu2; have U2 := Lib.hid hu2; clear hw2 hu1 hu2 hu3 b2; obtain ⟨a2, c2, rfl, hn2, hl2, hm2, hr2⟩ := id U2.out; clear hn2 hl2 hm2; obtain ⟨bb, oo, rfl, hrr⟩ := Row.pos hr2 (by rw [by8_length, HK8.out]; omega); clear hr2; have R2 := Lib.hid hrr; clear hrr; rw [HK8.out])
      | (refine wpList_load_mid rfl 51 _ rfl bb oo rfl (by8 k) _ R2.out Try.underlying51 rfl (by rw [by8_length, HK8.out]; kernel_rfl) ?_)
      | (go_at_call 29; refine (Decode_any k _ HK8.out).mono ?_; rintro e w3 ⟨rfl, hw3⟩; have b3 := (hw3.block (w.heap.size + 1) (block_lt HB2.out)).trans HB2.out; have HB3 := Lib.hid b3; have B3 := Lib.hid (gr_tr B2.out hw3); clear hw3 b3)
      | (refine wpList_store_row rfl 40 (.tmp 4) _ rfl (w.heap.size + 1) #[.int .u16 (uv (Prot.tg k)), .int .u16 (uv (Prot.ta k)), .int .u32 (uv (Prot.tr k))] rfl rfl 40 #[.int .u16 0, .int .u16 0, .int .u32 0] HB3.out (by kernel_rfl) rfl (by simp [Value.oneCell']) ?_))
    exact bodyPost_ret (results_row_tmp rfl _ _ (w.heap.size + 1) 40 _ (0, 0) _ rfl (setRow_heap _ _ _ _ _ _ HB3.out) Try.underlying40 rfl (by kernel_rfl)) rfl ⟨rfl, below_setRow B3.out (Nat.le_succ _) _⟩
  all_goals
    go_enter Try.func16, Try.ntmps16
    go_wp2_with (first
      | (go_at_call 26; refine (wrong_at _ _ _ _ _ _ _ (HM.out.below (gr_tr (gr_alloc _ _) (gr_alloc _ _))) HN.out).mono ?_; rintro e w1 ⟨rfl, hw1⟩; have b1 := (hw1.block (w.heap.size + 1) (by simp)).trans HW.out; have HB1 := Lib.hid b1; have B1 := Lib.hid (gr_tr (gr_tr (gr_alloc _ _) (gr_alloc _ _)) hw1); clear hw1 b1)
      | (refine wpList_store_row rfl 40 (.tmp 4) _ rfl (w.heap.size + 1) #[.int .u16 0, .int .u16 0, .int .u32 0] rfl rfl 40 #[.int .u16 0, .int .u16 0, .int .u32 0] HB1.out (by kernel_rfl) rfl (by simp [Value.oneCell']) ?_))
    exact bodyPost_ret (results_row_tmp rfl _ _ (w.heap.size + 1) 40 _ (0, 0) _ rfl (setRow_heap _ _ _ _ _ _ HB1.out) Try.underlying40 rfl (by kernel_rfl)) rfl ⟨rfl, below_setRow B1.out (Nat.le_succ _) _⟩

namespace Prot
def strip (ty : Int) (fs : Bool) (l : List (BitVec 8)) : List (BitVec 8) := if wr ty fs true l.length = 0 then l.take (place fs l.length) ++ l.drop (place fs l.length + 8) else []
end Prot
set_option maxHeartbeats 800000 in
set_option maxRecDepth 4000 in
theorem Strip_any (ty : Int) (fs : Bool) (m : Value) (lm : List (BitVec 8)) (w : World) (hm : BytesV w m lm) (hs : lm.length ≤ 140737488355328) :
    Calls Try.prog 10 #[.agg #[.int .i64 ty, .bool fs], m] w fun e w' => ∃ u, e = .returned (.tuple #[u, .int .i64 (Prot.wr ty fs true lm.length)]) ∧ BytesV w' u (Prot.strip ty fs lm) ∧ Below w.heap.size w w' := by
  obtain ⟨n, hn⟩ : ∃ n, Prot.wr ty fs true lm.length = n := ⟨_, rfl⟩
  unfold Prot.strip
  rw [hn]
  have HN := Lib.hid hn; clear hn
  have HM := Lib.hid hm; clear hm
  have hc := HN.out ▸ Prot.wr_cases ty fs true lm.length
  rcases hc with rfl | rfl | rfl
  · obtain ⟨hok, h0, h8⟩ := Prot.wr_ok HN.out
    have hr := (Prot.valid_range hok).1
    replace h0 := h0 rfl
    have hl8 : 8 ≤ lm.length := h8 (by omega)
    have HL8 := Lib.hid hl8; clear hl8 hok h8 h0 hr
    have hfl : [lm.take (Prot.place fs lm.length), lm.drop (Prot.place fs lm.length + 8)].flatten = lm.take (Prot.place fs lm.length) ++ lm.drop (Prot.place fs lm.length + 8) := by simp
    have hfs : [lm.take (Prot.place fs lm.length), lm.drop (Prot.place fs lm.length + 8)].flatten.length ≤ 140737488355328 := by
      rw [hfl]; simp only [List.length_append, List.length_take, List.length_drop]; omega
    have HFL := Lib.hid hfl; clear hfl
    have HFS := Lib.hid hfs; clear hfs hs
    go_enter Try.func10, Try.ntmps10
    go_wp2_with (first
      | (go_at_call 26; refine (wrong_at _ _ _ _ _ 0 _ (HM.out.below (gr_alloc _ _)) HN.out).mono ?_; rintro e w1 ⟨rfl, hw1⟩; have d0 : w1.cell? ⟨w.heap.size, 0, none⟩ = some (.int .i64 ty) := below_get hw1 (by simp [go_sem]); have d1 : w1.cell? ⟨w.heap.size, 1, none⟩ = some (.bool fs) := below_get hw1 (by simp [go_sem]); have B1 := Lib.hid (gr_tr (gr_alloc _ _) hw1); clear hw1)
      | (go_at_call 24; refine (parts_any _ _ _ _ _ (HM.out.below B1.out) HL8.out).mono ?_; rintro e w2 ⟨u1, u2, u3, rfl, hu1, hu2, hu3, hw2⟩; have B2 := Lib.hid (gr_tr B1.out hw2); have U1 := Lib.hid hu1; have U3 := Lib.hid hu3; clear hw2 hu1 hu2 hu3; obtain ⟨a1, n1, c1, rfl⟩ := U1.out.shape; obtain ⟨a3, n3, c3, rfl⟩ := U3.out.shape; have hp := PartsV.lit (w := w2) #[.slice a1 n1 c1, .slice a3 n3 c3] 46 (0, 0) _ 2 rfl rfl (by omega) (lits2 U1.out U3.out); have HP := Lib.hid hp; clear hp)
      | (go_at_call 25; refine (joined_any _ _ _ HP.out HFS.out).mono ?_; rintro e w3 ⟨u4, rfl, hu4, hw3⟩; rw [HFL.out] at hu4; have U4 := Lib.hid hu4; have B3 := Lib.hid (gr_tr B2.out (gr_tr (gr_alloc _ _) hw3)); clear hu4 hw3))
    go_ret2
    exact ⟨_, rfl, U4.out, B3.out⟩
  all_goals
    go_enter Try.func10, Try.ntmps10
    go_wp2_with (first
      | (go_at_call 26; refine (wrong_at _ _ _ _ _ _ _ (HM.out.below (gr_alloc _ _)) HN.out).mono ?_; rintro e w1 ⟨rfl, hw1⟩; have B1 := Lib.hid (gr_tr (gr_alloc _ _) hw1); clear hw1))
    go_ret2
    exact ⟨_, rfl, BytesV.nil _, B1.out⟩

theorem BytesV.of_row {w : World} {b : Nat} {t : TypeId} {fr : Nat × Nat} {l : List (BitVec 8)} (h : w.heap[b]? = some (.cells (by8 l).toArray t fr)) (n : Nat) (hn : n = l.length) (hm : n ≤ 9223372036854775807) :
    BytesV w (.slice (some ⟨b, 0, none⟩) n n) l := by
  refine BytesV.at (fun i hi => ?_) hn (Nat.le_refl _) hm
  rw [Nat.zero_add, cell_of_row _ _ _ _ _ _ h]; simp
namespace Prot
def ti (ty : Int) (fs : Bool) : Int := err1 (!valid ty fs || ty == 0)
def insert (ty : Int) (fs : Bool) (l b : List (BitVec 8)) : List (BitVec 8) := if ti ty fs = 0 then (if fs then b ++ l else l ++ b) else []
end Prot
end Go.Proofs.Ytpobkgkjfebhgaa
