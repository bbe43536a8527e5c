/- The walks of capsuleref17: Strip, Generate. -/
import Derived.Test.YtmccihngbdopdaaRef17D
import Derived.Test.YtmccihngbdopdaaProtI
namespace Go.Proofs.Ytmccihngbdopdaa
open Go.RowKit
set_option linter.unusedVariables false
set_option linter.unusedSimpArgs false
theorem rRead_ex (ty : Int) (fs : Bool) (m : Value) (lm : List (BitVec 8)) (n : Int) (w : World) (hm : BytesV w m lm) (hn : Prot.wr ty fs true lm.length = n) :
    Calls Try.prog 28 #[.agg #[.int .i64 ty, .bool fs], m] w fun e w' => ∃ (g a : BitVec 16) (r : BitVec 32), e = .returned (.tuple #[.agg #[.int .u16 (uv g), .int .u16 (uv a), .int .u32 (uv r)], .int .i64 n]) ∧ Below w.heap.size w w' := by
  subst hn
  exact (rRead_any ty fs m lm w hm).mono fun e w' ⟨h1, h2⟩ => ⟨_, _, _, h1, h2⟩
/-- A slice that the call owns, from p on. -/
theorem own_from {w : World} {base n : Nat} {u : Value} {xs : List Value} (h : w.ownsRow base 5 1 u n xs) (p : Nat) (hp : p < n) :
    ∃ g cap, u = .slice (some ⟨g, 0, none⟩) n cap ∧ base ≤ g ∧ g < w.heap.size ∧ ∀ w', (Instr.slice 35 u (some (.int .i64 p)) none none).run Try.prog w' = .ok (.slice (some ⟨g, p, none⟩) (n - p) (cap - p)) w' := by
  obtain ⟨h1, h2⟩ := h
  rcases h2 with ⟨e1, e2⟩ | ⟨g, cap, cur, hv, hg, hh, r1, r2, r3, r4⟩
  · omega
  · refine ⟨g, cap, hv, hg, block_lt hh, fun w' => ?_⟩
    subst hv
    unfold maxLen at r2
    have he : Try.prog.elem 35 = 5 := by simp [Program.elem, Try.underlying35]
    have ht' : Try.prog.underlying 35 = some (.slice (Try.prog.elem 35)) := by rw [he]; exact Try.underlying35
    have hz : (sizeOf (Try.prog.elem 35)).run Try.prog w' = .ok 1 w' := by
      rw [he]
      obtain ⟨i, hi, hi'⟩ := Option.map_eq_some_iff.1 bsz
      simp [sizeOf, typeInfo, hi, hi']
    rw [run_slice_l w' 35 (some ⟨g, 0, none⟩) n cap ht' .i64 p (by omega) (by omega), hz]
    simp only [Result.andThen, sliced, Option.map_some, Nat.mul_one, Addr.add_lit, Nat.zero_add, Int.toNat_natCast]
    rw [if_neg (by omega)]
/-- 'copy(own[p:], x)'. -/
theorem copy_into {ops : Array Oper} {rest : List Oper} {o : Oper} {a : Act} {Q : Exit → Act → World → Prop} {W : World} (hgd : o.guard = none) (d s : Operand) (ho : o.op = .call { callee := .builtin .copy, args := #[d, s], argTypes := #[35, 35] })
    (base g n cap p : Nat) (k l : List (BitVec 8)) (hd : a.eval d = .slice (some ⟨g, p, none⟩) (n - p) (cap - p)) (v : Value) (hs : a.eval s = v) (hown : W.ownsRow base 5 1 (.slice (some ⟨g, 0, none⟩) n cap) n (by8 k)) (hv : BytesV W v l) (hl : p + l.length ≤ n) (hpos : 0 < l.length)
    (h : ∀ w', w'.ownsRow base 5 1 (.slice (some ⟨g, 0, none⟩) n cap) n (by8 (k.take p ++ (l ++ k.drop (p + l.length)))) → W.grownBy w' (some g) → Below base W w' → wpList Try.prog ops Q rest (a.put o.dst (goInt l.length)) w') : wpList Try.prog ops Q (o :: rest) a W := by
  obtain ⟨av, cv, rfl, n1, n2, n3, n4⟩ := hv
  obtain ⟨h1, h2⟩ := hown
  rcases h2 with ⟨e1, e2⟩ | ⟨g', cap', cur, hv, hg, hh, r1, r2, r3, r4⟩
  · omega
  cases hv
  simp only [by8_length, Nat.mul_one] at h1 r3 r4
  obtain ⟨ad, rfl, hsrc⟩ := n4.src (by intro e; have h0 := congrArg List.length e; rw [by8_length, List.length_nil] at h0; omega)
  refine wpList_copy_own hgd d s _ _ ho 5 Try.underlying35 bsz g p (n - p) (cap - p) ad l.length cv hd hs cur 5 hh (by8 l) (by rw [by8_length]; exact (Nat.min_eq_left (show l.length ≤ n - p by omega)).symm) hsrc (by rw [by8_length]; omega) (by8_one l) ?_
  rw [by8_length]
  refine h _ ⟨by simp only [by8_length, List.length_append, List.length_take, List.length_drop]; omega, .inr ⟨g, cap, _, rfl, hg, setRow_heap _ _ _ _ _ _ hh, r1, r2, ?_, ?_⟩⟩ ?_ ?_
  · simp only [List.size_toArray, List.length_append, List.length_take, List.length_drop, by8_length, Array.length_toList]; omega
  · have hk : by8 (k.take p ++ (l ++ k.drop (p + l.length))) = (by8 k).take p ++ (by8 l ++ (by8 k).drop (p + l.length)) := by simp [by8]
    have hc : cur.toList.take n = by8 k := r4
    rw [hk, ← hc, Nat.mul_one]
    simp only [List.take_append, List.length_take, Array.length_toList, by8_length]
    rw [List.take_take, List.take_take, Nat.min_eq_right (by omega : p ≤ n), Nat.min_eq_left (by omega : p ≤ n), Nat.min_eq_left (by omega : p ≤ cur.size), List.take_of_length_le (by rw [by8_length]; omega : (by8 l).length ≤ n - p)]
    congr 2
    rw [List.drop_take]
    congr 1
    omega
  · exact ⟨rfl, rfl, rfl, by simp [World.setRow], fun i hi hne => setRow_other W g i _ (by intro e; exact hne (by rw [e]))⟩
  · exact below_setRow (Below.refl _ _) hg _

set_option maxRecDepth 4000 in
set_option maxHeartbeats 800000 in
theorem rStrip_any (ty : Int) (fs : Bool) (m : Value) (lm : List (BitVec 8)) (w : World) (hm : BytesV w m lm) (hs : lm.length ≤ 140737488355328) :
    Calls Try.prog 31 #[.agg #[.int .i64 ty, .bool fs], m] w fun e w' => ∃ u, e = .returned (.tuple #[u, .int .i64 (Prot.wr ty fs true lm.length)]) ∧ BytesV w' u (Prot.strip ty fs lm) ∧ Below w.heap.size w w' := by
  obtain ⟨n, hn⟩ : ∃ n, Prot.wr ty fs true lm.length = n := ⟨_, rfl⟩
  unfold Prot.strip
  rw [hn]
  have HN := Lib.hid hn; clear hn
  have HM := Lib.hid hm; clear hm
  have HS := Lib.hid hs; clear hs
  have hc := HN.out ▸ Prot.wr_cases ty fs true lm.length
  rcases hc with rfl | rfl | rfl
  · obtain ⟨hok, h0, h8⟩ := Prot.wr_ok HN.out
    have hr := (Prot.valid_range hok).1
    replace h0 := h0 rfl
    have hl8 : 8 ≤ lm.length := h8 (by omega)
    obtain ⟨p, hp⟩ : ∃ p, Prot.place fs lm.length = p := ⟨_, rfl⟩
    have hpl : p + 8 ≤ lm.length := by subst hp; unfold Prot.place; split <;> omega
    have hpm : p + 8 ≤ 9223372036854775807 := by have := HS.out; omega
    obtain ⟨u1, hu1, -, r1⟩ := HM.out.cut Try.underlying35 bsz 0 p (by omega) (by omega)
    replace r1 := r1 rfl
    rw [List.drop_zero] at hu1
    obtain ⟨u3, hu3, r3⟩ := HM.out.cutl Try.underlying35 bsz (p + 8) (by omega)
    rw [show ((p + 8 : Nat) : Int) = (p : Int) + 8 by omega] at r3
    rw [if_pos rfl, hp]
    obtain ⟨l1, hl1⟩ : ∃ l1, lm.take p = l1 := ⟨_, rfl⟩
    obtain ⟨l3, hl3⟩ : ∃ l3, lm.drop (p + 8) = l3 := ⟨_, rfl⟩
    have hz1 : l1.length ≤ 140737488355328 := by rw [← hl1, List.length_take]; have := HS.out; omega
    have hz3 : l1.length + l3.length ≤ 140737488355328 := by rw [← hl1, ← hl3, List.length_take, List.length_drop]; have := HS.out; omega
    rw [hl1] at hu1 ⊢
    rw [hl3] at hu3 ⊢
    have HL8 := Lib.hid hl8; clear hl8 hok h8 h0 hr hpl hl1 hl3
    have HP := Lib.hid hp; clear hp
    have HZ1 := Lib.hid hz1; clear hz1
    have HZ3 := Lib.hid hz3; clear hz3
    have U1 := Lib.hid hu1; clear hu1
    have U3 := Lib.hid hu3; clear hu3
    go_enter Try.func31, Try.ntmps31
    go_wp2_with (first
      | (go_at_call 28; refine (rRead_ex _ _ _ _ 0 _ (HM.out.below (gr_alloc _ _)) HN.out).mono ?_; rintro e w1 ⟨g, a, r, rfl, hw1⟩; have d0 : w1.cell? ⟨w.heap.size, 0, none⟩ = some (.int .i64 ty) := below_get hw1 (by simp [go_sem]); have d1 : w1.cell? ⟨w.heap.size, 1, none⟩ = some (.bool fs) := below_get hw1 (by simp [go_sem]); have B1 := Lib.hid (gr_tr (gr_alloc _ _) hw1); clear hw1)
      | (refine wpList_store_new rfl 25 (.tmp 6) _ rfl #[.int .u16 (uv g), .int .u16 (uv a), .int .u32 (uv r)] 25 #[.int .u16 0, .int .u16 0, .int .u32 0] rfl rfl (by kernel_rfl) rfl (by simp [Value.oneCell']) ?_; intro w2 hr2 hb2; replace d0 := below_get hb2 d0; replace d1 := below_get hb2 d1; have B2 := Lib.hid (gr_tr B1.out hb2); clear hr2 hb2)
      | (go_at_call 42; refine (place_any _ _ _ _ p _ (HM.out.below B2.out) HL8.out HP.out).mono ?_; rintro e w3 ⟨rfl, hw3⟩; have B3 := Lib.hid (gr_tr B2.out hw3); clear hw3))
    have hwr : IntKind.i64.wrap ((p : Int) + 8) = (p : Int) + 8 := IntWalk.i64_in _ (by omega)
    refine wp_region_planW nowhere [(true, 1), (true, 2), (true, 3), (true, 5), (true, 6), (true, 7), (true, 8), (false, 0), (false, 4), (false, 9), (true, 10), (true, 11)]
      (by kernel_rfl) (by kernel_rfl) (by intro c a d v w h; cases d <;> exact h) ?_
    intro W1 K1 C1
    have V1 := Lib.hid ((U1.out.below B3.out).below C1.out)
    have V3 := Lib.hid ((U3.out.below B3.out).below C1.out)
    repeat (refine wpS_firm rfl (fun K hK => ?_); simp only [Keep]; go_simp; refine hK _ ?_; clear hK K)
    refine wpS_chain rfl ?_
    go_wp2_with fail
    refine ⟨K1.out.alloc _, ?_⟩
    refine wpS_chain rfl ?_
    refine app_fresh rfl (.tmp 21) (.tmp 24) rfl _ rfl rfl _ l1 rfl V1.out HZ1.out ?_
    intro v4 w4 hown hb
    have O4 := Lib.hid hown; clear hown
    have B4 := Lib.hid hb; clear hb
    go_wp2_with fail
    refine ⟨K1.out.below B4.out, ?_⟩
    refine wpS_chain rfl ?_
    refine app_more rfl (.tmp 25) (.tmp 29) rfl v4 W1.heap.size l1.length l1 rfl O4.out B4.out.size u3 l3 rfl (V3.out.below B4.out) HZ3.out ?_
    intro v5 w5 hown _ hb
    have O5 := Lib.hid (BytesV.of_own (l := l1 ++ l3) (by rw [List.length_append]; exact hown)); clear hown
    have B5 := Lib.hid (hb.mono (B' := w3.heap.size) C1.out.size); clear hb
    go_wp2_with fail
    refine ⟨(K1.out.below B4.out).base B5.out, ?_⟩
    repeat (refine wpS_firm rfl (fun K hK => ?_); simp only [Keep]; go_simp; refine hK _ ?_; clear hK K)
    unfold wpS
    go_wp2_with fail
    go_ret2
    exact ⟨_, rfl, O5.out, (gr_tr B3.out (gr_tr C1.out B4.out)).trans (B5.out.mono B3.out.size)⟩
  all_goals
    go_enter Try.func31, Try.ntmps31
    go_wp2_with (first
      | (go_at_call 28; refine (rRead_ex _ _ _ _ _ _ (HM.out.below (gr_alloc _ _)) HN.out).mono ?_; rintro e w1 ⟨g, a, r, rfl, hw1⟩; have B1 := Lib.hid (gr_tr (gr_alloc _ _) hw1); clear hw1)
      | (refine wpList_store_new rfl 25 (.tmp 6) _ rfl #[.int .u16 (uv g), .int .u16 (uv a), .int .u32 (uv r)] 25 #[.int .u16 0, .int .u16 0, .int .u32 0] rfl rfl (by kernel_rfl) rfl (by simp [Value.oneCell']) ?_; intro w2 hr2 hb2; have B2 := Lib.hid (gr_tr B1.out hb2); clear hr2 hb2))
    go_ret2
    exact ⟨_, rfl, BytesV.nil _, B2.out⟩
end Go.Proofs.Ytmccihngbdopdaa
