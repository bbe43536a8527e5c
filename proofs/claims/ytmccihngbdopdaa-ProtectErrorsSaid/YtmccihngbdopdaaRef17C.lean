/- The walks of capsuleref17: Guard, Read. -/
import Derived.Test.YtmccihngbdopdaaRef17B
import Derived.Test.YtmccihngbdopdaaRef02
import Derived.Test.YtmccihngbdopdaaApp
namespace Go.Proofs.Ytmccihngbdopdaa
open Go.RowKit
set_option linter.unusedVariables false
set_option linter.unusedSimpArgs false

theorem own_empty (w : World) (o : Obj) : ((w.alloc o).alloc (.cells #[] 5)).ownsRow w.heap.size 5 1 (.slice (some ⟨w.heap.size + 1, 0, none⟩) 0 0) 0 [] := by
  have h := World.ownsRow_made (base := w.heap.size) (e := 5) (size := 1) (w.alloc o) #[] 0 (by simp) (by decide) rfl
  rwa [show (w.alloc o).heap.size = w.heap.size + 1 by simp] at h
theorem rCRC16_at (v : Value) (l : List (BitVec 8)) (w : World) (n : Int) (hv : BytesV w v l) (hn : uv (Dig.crc16 l) = n) :
    Calls Try.prog 45 #[v] w fun e w' => e = .returned (.int .u16 n) ∧ w = w' := by
  subst hn; exact rCRC16_any v l w hv
set_option maxHeartbeats 800000 in
theorem rGuard_any (ty : Int) (fs : Bool) (v m : Value) (lv lm : List (BitVec 8)) (w : World) (hv : BytesV w v lv) (hm : BytesV w m lm) (h8 : 0 < ty → 8 ≤ lm.length) (h0 : 0 ≤ ty) (hs : lv.length + lm.length ≤ 140737488355328) :
    Calls Try.prog 24 #[.agg #[.int .i64 ty, .bool fs], v, m] w fun e w' => e = .returned (.int .u16 (uv (Prot.guard ty fs lv lm))) ∧ Below w.heap.size w w' := by
  have HM := Lib.hid hm; clear hm
  have ho := own_empty w (.cells #[.int .i64 ty, .bool fs] 28)
  have HO := Lib.hid ho; clear ho
  have hb2 : Below w.heap.size w ((w.alloc (.cells #[.int .i64 ty, .bool fs] 28)).alloc (.cells #[] 5)) := gr_tr (gr_alloc _ _) (gr_alloc _ _)
  have hv2 := hv.below hb2
  have HB2 := Lib.hid hb2; clear hb2
  obtain ⟨av, cv, rfl, n1, n2, n3, n4⟩ := hv2
  clear hv n3
  have N1 := Lib.hid n1; clear n1
  have N2 := Lib.hid n2; clear n2
  have N4 := Lib.hid n4; clear n4
  have hs1 : lv.length ≤ 140737488355328 := by omega
  have HS1 := Lib.hid hs1; clear hs1
  by_cases hp : 0 < ty
  · obtain ⟨n, hn⟩ : ∃ n, Prot.place fs lm.length = n := ⟨_, rfl⟩
    have hnl : n ≤ lm.length := by subst hn; unfold Prot.place; split <;> omega
    have HN := Lib.hid hn; clear hn
    obtain ⟨u, hu, -, ru⟩ := HM.out.cut Try.underlying35 bsz 0 n (by omega) hnl
    replace ru := ru rfl
    rw [List.drop_zero] at hu
    obtain ⟨l1, hl1⟩ : ∃ l1, lm.take n = l1 := ⟨_, rfl⟩
    have hg : Prot.guard ty fs lv lm = Dig.crc16 (lv ++ l1) := by unfold Prot.guard; rw [if_neg (by omega), HN.out, hl1]
    have hs2 : lv.length + l1.length ≤ 140737488355328 := by rw [← hl1, List.length_take]; omega
    rw [hl1] at hu
    have HG := Lib.hid hg; clear hg hl1
    have HS2 := Lib.hid hs2; clear hs2
    have H8 := Lib.hid (h8 hp); clear h8 hs hnl h0
    have hp' : decide (ty > 0) = true := by simpa using hp
    clear hp
    obtain ⟨au, cu, rfl, u1, u2, u3, u4⟩ := hu
    have U1 := Lib.hid u1; clear u1
    have U2 := Lib.hid u2; clear u2 u3
    have U4 := Lib.hid u4; clear u4
    go_enter Try.func24, Try.ntmps24
    go_wp2_with (first
      | (at_builtin; refine app_law bytesOk rfl (.tmp 8) (.tmp 9) rfl w.heap.size (.slice (some ⟨w.heap.size + 1, 0, none⟩) 0 0) 0 [] rfl HO.out av lv.length cv (by8 lv) rfl N1.out N2.out N4.out (by simp) (by8_one lv) (by have := HS1.out; omega) (by have := HS1.out; omega) HB2.out.size ?_; intro v1 w1 hown hgrow _; simp only [Nat.zero_add, List.nil_append] at hown; have d0 : w1.cell? ⟨w.heap.size, 0, none⟩ = some (.int .i64 ty) := hgrow.cell (by simp [go_sem]) (by simp [Value.ownBlock]); have d1 : w1.cell? ⟨w.heap.size, 1, none⟩ = some (.bool fs) := hgrow.cell (by simp [go_sem]) (by simp [Value.ownBlock]); have O1 := Lib.hid hown; have B1 := Lib.hid (HB2.out.grown hgrow HB2.out.size (fun k hk => ((HO.out.lt) k hk).1)); clear hown hgrow)
      | (go_at_call 42; refine (place_any _ _ _ _ n _ (HM.out.below B1.out) H8.out HN.out).mono ?_; rintro e w2 ⟨rfl, hw2⟩; have O2 := Lib.hid (own_below O1.out hw2); have B2 := Lib.hid (gr_tr B1.out hw2); clear hw2)
      | (at_builtin; refine app_law bytesOk rfl (.tmp 14) (.tmp 19) rfl w.heap.size v1 lv.length (by8 lv) rfl O2.out au l1.length cu (by8 l1) rfl U1.out U2.out (U4.out.below B2.out) (by simp) (by8_one l1) (by have := HS2.out; omega) (by have := HS2.out; omega) B2.out.size ?_; intro v3 w3 hown hgrow _; rw [← by8_append] at hown; have O3 := Lib.hid (BytesV.of_own (by rw [List.length_append]; exact hown)); have B3 := Lib.hid (B2.out.grown hgrow B2.out.size (fun k hk => ((O2.out.lt) k hk).1)); clear hown hgrow)
      | (go_at_call 45; refine (rCRC16_any _ _ _ O3.out).mono ?_; rintro e w4 ⟨rfl, rfl⟩))
    go_ret
    exact ⟨by rw [HG.out]; rfl, B3.out⟩
  · obtain rfl : ty = 0 := by omega
    clear h8 hs h0 hp
    go_enter Try.func24, Try.ntmps24
    go_wp2_with (first
      | (at_builtin; refine app_law bytesOk rfl (.tmp 8) (.tmp 9) rfl w.heap.size (.slice (some ⟨w.heap.size + 1, 0, none⟩) 0 0) 0 [] rfl HO.out av lv.length cv (by8 lv) rfl N1.out N2.out N4.out (by simp) (by8_one lv) (by have := HS1.out; omega) (by have := HS1.out; omega) HB2.out.size ?_; intro v1 w1 hown hgrow _; simp only [Nat.zero_add, List.nil_append] at hown; have d0 : w1.cell? ⟨w.heap.size, 0, none⟩ = some (.int .i64 0) := hgrow.cell (by simp [go_sem]) (by simp [Value.ownBlock]); have O1 := Lib.hid (BytesV.of_own hown); have B1 := Lib.hid (HB2.out.grown hgrow HB2.out.size (fun k hk => ((HO.out.lt) k hk).1)); clear hown hgrow)
      | (go_at_call 45; refine (rCRC16_any _ _ _ O1.out).mono ?_; rintro e w4 ⟨rfl, rfl⟩))
    go_ret
    exact ⟨rfl, B1.out⟩
end Go.Proofs.Ytmccihngbdopdaa
